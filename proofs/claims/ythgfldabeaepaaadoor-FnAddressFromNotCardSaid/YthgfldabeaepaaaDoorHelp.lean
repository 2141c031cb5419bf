/- What the statements' own helpers do: comparing, marking, looking at marks, copying; and the tests for a range. No condition. -/
import Derived.Test.YthgfldabeaepaaaDoorProg
import Derived.Test.YthgfldabeaepaaaDoorMem
import Derived.Test.YthgfldabeaepaaaDoorPlain
import Derived.WalkSpells
namespace Go.Proofs.YthgfldabeaepaaaDoor
open Go.RowKit

theorem Tryd.infoInt : (Tryd.prog.info? 3).map (fun i => (i.zero, i.size, i.bytes)) = some (some (.int .i64 0), 1, 8) := by kernel_rfl

theorem own_nil2 (w : World) : w.ownsRow w.heap.size 3 1 (.slice none 0 0) 0 (ints []) := World.ownsRow_nil _ _ _ _
theorem own_empty (w : World) : (w.alloc (.cells #[] 3)).ownsRow w.heap.size 3 1 (.slice (some ⟨w.heap.size, 0, none⟩) 0 0) 0 (ints []) := World.ownsRow_lit _ _ 0 (Nat.le_refl _) (by decide) rfl

/-- Two results: a slice of the call's own that holds zs, and b. -/
def RetIB (w : World) (zs : List Int) (b : Bool) (e : Ending) (w' : World) : Prop :=
  ∃ A n c, e = .returned (.tuple #[.slice A n c, .bool b]) ∧ w'.ownsRow w.heap.size 3 1 (.slice A n c) n (ints zs) ∧ Below w.heap.size w w'
/-- One result: a slice of the call's own that holds zs. -/
def RetI (w : World) (zs : List Int) (e : Ending) (w' : World) : Prop :=
  ∃ A n c, e = .returned (.slice A n c) ∧ w'.ownsRow w.heap.size 3 1 (.slice A n c) n (ints zs) ∧ Below w.heap.size w w'

theorem within_any (x lo hi : Int) (w : World) (r : Bool) (hr : inR x lo hi = r) : Calls Tryd.prog 72 #[.int .i64 x, .int .i64 lo, .int .i64 hi] w fun e w' => e = .returned (.bool r) ∧ w = w' := by
  subst hr
  by_cases h1 : lo ≤ x
  · by_cases h2 : x ≤ hi
    · have e : inR x lo hi = true := inR_true.2 ⟨h1, h2⟩
      rw [e]
      go_enter Tryd.func72, Tryd.ntmps72
      go_wp2
      go_ret
      exact ⟨rfl, rfl⟩
    · have e : inR x lo hi = false := inR_false.2 (by omega)
      rw [e]
      go_enter Tryd.func72, Tryd.ntmps72
      go_wp2
      go_ret
      exact ⟨rfl, rfl⟩
  · have e : inR x lo hi = false := inR_false.2 (by omega)
    rw [e]
    go_enter Tryd.func72, Tryd.ntmps72
    go_wp2
    go_ret
    exact ⟨rfl, rfl⟩
theorem l6In_any (x lo hi : Int) (w : World) (r : Bool) (hr : inR x lo hi = r) : Calls Tryd.prog 68 #[.int .i64 x, .int .i64 lo, .int .i64 hi] w fun e w' => e = .returned (.bool r) ∧ w = w' := by
  subst hr
  by_cases h1 : lo ≤ x
  · by_cases h2 : x ≤ hi
    · have e : inR x lo hi = true := inR_true.2 ⟨h1, h2⟩
      rw [e]
      go_enter Tryd.func68, Tryd.ntmps68
      go_wp2
      go_ret
      exact ⟨rfl, rfl⟩
    · have e : inR x lo hi = false := inR_false.2 (by omega)
      rw [e]
      go_enter Tryd.func68, Tryd.ntmps68
      go_wp2
      go_ret
      exact ⟨rfl, rfl⟩
  · have e : inR x lo hi = false := inR_false.2 (by omega)
    rw [e]
    go_enter Tryd.func68, Tryd.ntmps68
    go_wp2
    go_ret
    exact ⟨rfl, rfl⟩

set_option maxRecDepth 20000 in
set_option maxHeartbeats 400000 in
theorem eqIntS_any (A B : Option Addr) (n m c d : Nat) (xs ys : List Int) (w : World) (hx : Rd w A n (ints xs)) (hy : Rd w B m (ints ys)) :
    Calls Tryd.prog 17 #[.slice A n c, .slice B m d] w fun e w' => e = .returned (.bool (decide (xs = ys))) ∧ Below w.heap.size w w' := by
  have hn := hx.max
  have hm := hy.max
  by_cases hnm : n = m
  · subst hnm
    go_enter Tryd.func17, Tryd.ntmps17
    go_wp2
    go_loopw [5] (fun i wr => ∃ k : Nat, k ≤ n ∧ i = .int .i64 k ∧ Hid (xs.take k = ys.take k) ∧ Below w.heap.size w wr) (fun i _ => n - (intOf i).toNat)
    case atStart => exact ⟨0, Nat.zero_le _, rfl, by simp [Hid], Below.refl _ _⟩
    case round =>
      obtain ⟨k, hk, rfl, heq, hb⟩ := hrel
      by_cases hlt : k < n
      · obtain ⟨b1, o1, x, rfl, hxk, hc1⟩ := (hx.below hb).int hlt
        obtain ⟨b2, o2, y, rfl, hyk, hc2⟩ := (hy.below hb).int hlt
        replace hxk := Lib.hid hxk
        replace hyk := Lib.hid hyk
        have hlt' : (k : Int) < (n : Int) := by omega
        by_cases hxy : x = y
        · subst hxy
          go_wp2_with (go_quiet (fail))
          go_roundw
          case rel => exact ⟨k + 1, by omega, by go_num, take_eq_succ heq hxk.out hyk.out, bdrewN hb _⟩
          case measure => simp [intOf]; omega
        · have hne : (x != y) = true := by simpa using hxy
          go_wp2_with (go_quiet (fail))
          go_ret
          exact ⟨by rw [decide_eq_false (ne_of_at hxk.out hyk.out hxy)]; rfl, bdrewN hb _⟩
      · have hk' : k = n := by omega
        subst hk'
        go_wp2
        go_ret
        have e : xs = ys := by
          have := heq.out
          rwa [List.take_of_length_le (by have := hx.ilen; omega), List.take_of_length_le (by have := hy.ilen; omega)] at this
        exact ⟨by rw [decide_eq_true e]; rfl, hb⟩
  · have hne : ((n : Int) != (m : Int)) = true := by simpa using by omega
    go_enter Tryd.func17, Tryd.ntmps17
    go_wp2
    go_ret
    have e : xs ≠ ys := by
      rintro rfl
      have h1 := hx.ilen
      have h2 := hy.ilen
      omega
    exact ⟨by rw [decide_eq_false e]; rfl, Below.refl _ _⟩
set_option maxRecDepth 20000 in
set_option maxHeartbeats 400000 in
theorem sameBytes_any (A B : Option Addr) (n m c d : Nat) (xs ys : List Int) (w : World) (hx : Rd w A n (ints xs)) (hy : Rd w B m (ints ys)) :
    Calls Tryd.prog 25 #[.slice A n c, .slice B m d] w fun e w' => e = .returned (.bool (decide (xs = ys))) ∧ Below w.heap.size w w' := by
  have hn := hx.max
  have hm := hy.max
  by_cases hnm : n = m
  · subst hnm
    go_enter Tryd.func25, Tryd.ntmps25
    go_wp2
    go_loopw [5] (fun i wr => ∃ k : Nat, k ≤ n ∧ i = .int .i64 k ∧ Hid (xs.take k = ys.take k) ∧ Below w.heap.size w wr) (fun i _ => n - (intOf i).toNat)
    case atStart => exact ⟨0, Nat.zero_le _, rfl, by simp [Hid], Below.refl _ _⟩
    case round =>
      obtain ⟨k, hk, rfl, heq, hb⟩ := hrel
      by_cases hlt : k < n
      · obtain ⟨b1, o1, x, rfl, hxk, hc1⟩ := (hx.below hb).int hlt
        obtain ⟨b2, o2, y, rfl, hyk, hc2⟩ := (hy.below hb).int hlt
        replace hxk := Lib.hid hxk
        replace hyk := Lib.hid hyk
        have hlt' : (k : Int) < (n : Int) := by omega
        by_cases hxy : x = y
        · subst hxy
          go_wp2_with (go_quiet (fail))
          go_roundw
          case rel => exact ⟨k + 1, by omega, by go_num, take_eq_succ heq hxk.out hyk.out, bdrewN hb _⟩
          case measure => simp [intOf]; omega
        · have hne : (x != y) = true := by simpa using hxy
          go_wp2_with (go_quiet (fail))
          go_ret
          exact ⟨by rw [decide_eq_false (ne_of_at hxk.out hyk.out hxy)]; rfl, bdrewN hb _⟩
      · have hk' : k = n := by omega
        subst hk'
        go_wp2
        go_ret
        have e : xs = ys := by
          have := heq.out
          rwa [List.take_of_length_le (by have := hx.ilen; omega), List.take_of_length_le (by have := hy.ilen; omega)] at this
        exact ⟨by rw [decide_eq_true e]; rfl, hb⟩
  · have hne : ((n : Int) != (m : Int)) = true := by simpa using by omega
    go_enter Tryd.func25, Tryd.ntmps25
    go_wp2
    go_ret
    have e : xs ≠ ys := by
      rintro rfl
      have h1 := hx.ilen
      have h2 := hy.ilen
      omega
    exact ⟨by rw [decide_eq_false e]; rfl, Below.refl _ _⟩

set_option maxRecDepth 20000 in
set_option maxHeartbeats 400000 in
theorem markIntS_any (B : Nat) (A : Option Addr) (n c : Nat) (zs : List Int) (m : Int) (w : World) (ho : w.ownsRow B 3 1 (.slice A n c) n (ints zs)) (hm : 0 ≤ m ∧ m + n ≤ 9223372036854775807) :
    Calls Tryd.prog 22 #[.slice A n c, .int .i64 m] w fun e w' => e = .returned (.int .i64 (m + n)) ∧ w'.ownsRow B 3 1 (.slice A n c) n (ints (marks m n)) ∧ w.grownBy w' (Value.ownBlock (.slice A n c)) := by
  obtain ⟨hm0, hm1⟩ := hm
  have hl : zs.length = n := by simpa using ho.1
  go_enter Tryd.func22, Tryd.ntmps22
  go_wp2
  go_loopw [1, 5] (fun q i wr => ∃ k : Nat, k ≤ n ∧ i = .int .i64 k ∧ q = .int .i64 (m + k) ∧ wr.ownsRow B 3 1 (.slice A n c) n (ints (struck zs m k)) ∧ w.grownBy wr (Value.ownBlock (.slice A n c))) (fun _ i _ => n - (intOf i).toNat)
  case atStart => exact ⟨0, Nat.zero_le _, rfl, by simp, by rw [struck_zero]; exact ho, World.grownBy.refl _ _⟩
  case round =>
    obtain ⟨k, hk, rfl, rfl, hown, hg⟩ := hrel
    by_cases hlt : k < n
    · obtain ⟨g, rfl, hBg, hgw, hcell, hfz, hset⟩ := own_block hown (by omega)
      have hc : wr.cell? ⟨g, k, none⟩ = some (.int .i64 ((struck zs m k).getD k 0)) := by
        rw [hcell k hlt]
        have : k < (struck zs m k).length := by simp [struck, marks_length]; omega
        simp [List.getD, List.getElem?_eq_getElem this]
      generalize (struck zs m k).getD k 0 = old at hc
      have hf := hfz k
      have hs := (hset k (.int .i64 (m + k)))
      replace hset := Lib.hid hset
      replace hfz := Lib.hid hfz
      replace hcell := Lib.hid hcell
      obtain ⟨hs1, hs2⟩ := hs
      go_wp2
      go_roundw
      case rel =>
        refine ⟨k + 1, by omega, by go_num, by go_num, ?_, grown_trans hg hs2⟩
        have : (ints (struck zs m k)).set k (.int .i64 (m + k)) = ints (struck zs m (k + 1)) := by
          rw [← struck_succ (by omega)]
          simp only [ints, List.map_set]
        rw [← this]
        exact hs1
      case measure => simp [intOf]; omega
    · have hk' : k = n := by omega
      subst hk'
      go_wp2
      go_ret
      refine ⟨rfl, ?_, hg⟩
      rw [struck_all hl] at hown
      exact hown

set_option maxRecDepth 20000 in
set_option maxHeartbeats 400000 in
theorem heldIntS_any (A : Option Addr) (n c : Nat) (m : Int) (w : World) (hx : Rd w A n (ints (marks m n))) (hm : 0 ≤ m ∧ m + n ≤ 9223372036854775807) :
    Calls Tryd.prog 23 #[.slice A n c, .int .i64 m] w fun e w' => e = .returned (.int .i64 (m + n)) ∧ Below w.heap.size w w' := by
  obtain ⟨hm0, hm1⟩ := hm
  go_enter Tryd.func23, Tryd.ntmps23
  go_wp2
  go_loopw [1, 5] (fun q i wr => ∃ k : Nat, k ≤ n ∧ i = .int .i64 k ∧ q = .int .i64 (m + k) ∧ Below w.heap.size w wr) (fun _ i _ => n - (intOf i).toNat)
  case atStart => exact ⟨0, Nat.zero_le _, rfl, by simp, Below.refl _ _⟩
  case round =>
    obtain ⟨k, hk, rfl, rfl, hb⟩ := hrel
    by_cases hlt : k < n
    · obtain ⟨b1, o1, x, rfl, hxk, hc1⟩ := (hx.below hb).int hlt
      rw [marks_at hlt] at hxk
      obtain rfl : m + (k : Int) = x := by simpa using hxk
      clear hxk
      have hne : ((m + (k : Int)) != (m + (k : Int))) = false := by simp
      go_wp2_with (go_quiet (fail))
      go_roundw
      case rel => exact ⟨k + 1, by omega, by go_num, by go_num, hb⟩
      case measure => simp [intOf]; omega
    · have hk' : k = n := by omega
      subst hk'
      go_wp2
      go_ret
      exact ⟨rfl, hb⟩

set_option maxRecDepth 20000 in
set_option maxHeartbeats 400000 in
theorem toIntS_any (A : Option Addr) (n c : Nat) (zs : List Int) (w : World) (hx : Rd w A n (ints zs)) (hn : n ≤ 1048576) :
    Calls Tryd.prog 15 #[.slice A n c] w fun e w' => ∃ A' c', e = .returned (.slice A' n c') ∧ w'.ownsRow w.heap.size 3 1 (.slice A' n c') n (ints zs) ∧ Below w.heap.size w w' := by
  obtain ⟨i0, hi, hz0, hz1, hz2⟩ := info_parts Tryd.infoInt
  have hby : i0.bytes * n ≤ 281474976710656 := by rw [hz2]; omega
  have hml : n ≤ maxLen := by unfold maxLen; omega
  go_enter Tryd.func15, Tryd.ntmps15
  go_wp2_with (at_make; refine wpList_make_full _ rfl _ _ 22 rfl w.heap.size 3 i0 _ 1 Tryd.underlying22 hi hz0 hz1 _ _ _ _ n rfl rfl rfl rfl hby hml (Nat.le_refl _) ?_)
  intro w1 hown0 hg0
  clear hi hz0 hz1 hz2 hby hml
  have hb0 : Below w.heap.size w w1 := grown_below hg0 (Nat.le_refl _) (fun k h => by cases h)
  have hown1 : w1.ownsRow w.heap.size 3 1 (.slice (some ⟨w.heap.size, 0, none⟩) n n) n (ints (fill zs 0 n 0)) := by
    rw [fill_zero]
    simpa [toList_madeCells_one] using hown0
  clear hown0
  have hl := hx.ilen
  replace hl := Lib.hid hl
  have hx1 := hx.below hb0
  generalize hA : (some (⟨w.heap.size, 0, none⟩ : Addr)) = A1 at hown1 ⊢
  replace hA := Lib.hid hA
  go_wp2
  go_loopw [4] (fun i wr => ∃ k : Nat, k ≤ n ∧ i = .int .i64 k ∧ wr.ownsRow w.heap.size 3 1 (.slice A1 n n) n (ints (fill zs 0 n k)) ∧ Below w.heap.size w wr) (fun i _ => n - (intOf i).toNat)
  case atStart => exact ⟨0, Nat.zero_le _, rfl, hown1, hb0⟩
  case round =>
    clear hown1 hb0 hx1
    obtain ⟨k, hk, rfl, hown, hb⟩ := hrel
    by_cases hlt : k < n
    · obtain ⟨b1, o1, x, rfl, hxk, hc1⟩ := (hx.below hb).int hlt
      obtain ⟨g, rfl, hBg, hgw, hcell, hfz, hset⟩ := own_block hown (by omega)
      have hc : wr.cell? ⟨g, k, none⟩ = some (.int .i64 ((fill zs 0 n k).getD k 0)) := by
        rw [hcell k hlt]
        have : k < (fill zs 0 n k).length := by rw [fill_length hl.out hk]; exact hlt
        simp [List.getD, List.getElem?_eq_getElem this]
      generalize (fill zs 0 n k).getD k 0 = old at hc
      have hf := hfz k
      obtain ⟨hs1, hs2⟩ := hset k (.int .i64 x)
      rw [← List.map_set, fill_set hl.out hlt hxk] at hs1
      clear hcell hfz hset
      replace hxk := Lib.hid hxk
      go_wp2
      go_roundw
      case rel => exact ⟨k + 1, by omega, by go_num, hs1, hb.grown hs2 (Nat.le_of_lt (Nat.lt_of_le_of_lt hBg hgw)) (fun j h => by cases h; exact hBg)⟩
      case measure => simp [intOf]; omega
    · have hk' : k = n := by omega
      subst hk'
      go_wp2
      go_ret
      rw [fill_all hl.out] at hown
      exact ⟨A1, k, rfl, hown, hb⟩
end Go.Proofs.YthgfldabeaepaaaDoor
