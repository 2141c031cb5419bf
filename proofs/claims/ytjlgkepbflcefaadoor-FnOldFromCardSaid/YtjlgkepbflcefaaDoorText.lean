/- What TextBytes returns, in the program and in the reference. No condition. -/
import Derived.Test.YtjlgkepbflcefaaDoorHelp
namespace Go.Proofs.YtjlgkepbflcefaaDoor
open Go.RowKit

theorem take_snoc_int {zs : List Int} {k : Nat} {x : Int} (h : zs[k]? = some x) : ints (zs.take k) ++ [.int .i64 x] = ints (zs.take (k + 1)) := by
  rw [List.take_add_one, h]
  simp [ints]

set_option maxRecDepth 20000 in
set_option maxHeartbeats 1000000 in
theorem textBytes_fn (s : ByteArray) (w : World) (hs : s.size ≤ 1048576) : Calls Tryd.prog 58 #[.string s] w (RetI w (sInts s)) := by
  obtain ⟨i0, hi, hz0, hz1, hz2⟩ := info_parts Tryd.infoInt
  have hby : i0.bytes * s.size ≤ 281474976710656 := by rw [hz2]; omega
  have hml : s.size ≤ maxLen := by unfold maxLen; omega
  go_enter Tryd.func58, Tryd.ntmps58
  go_wp2_with (at_make; refine wpList_make_full _ rfl _ _ 22 rfl w.heap.size 3 i0 _ 1 Tryd.underlying22 hi hz0 hz1 _ _ _ _ s.size rfl rfl rfl rfl hby hml (Nat.le_refl _) ?_)
  intro w1 hown0 hg0
  clear hi hz0 hz1 hz2 hby hml
  have hb0 : Below w.heap.size w w1 := grown_below hg0 (Nat.le_refl _) (fun k h => by cases h)
  have hown1 : w1.ownsRow w.heap.size 3 1 (.slice (some ⟨w.heap.size, 0, none⟩) s.size s.size) s.size (ints (fill (sInts s) 0 s.size 0)) := by
    rw [fill_zero]
    simpa [toList_madeCells_one] using hown0
  clear hown0
  generalize hA : (some (⟨w.heap.size, 0, none⟩ : Addr)) = A1 at hown1 ⊢
  clear hA
  go_wp2
  go_loopw [10] (fun i wr => ∃ k : Nat, k ≤ s.size ∧ i = .int .i64 k ∧ wr.ownsRow w.heap.size 3 1 (.slice A1 s.size s.size) s.size (ints (fill (sInts s) 0 s.size k)) ∧ Below w.heap.size w wr) (fun i _ => s.size - (intOf i).toNat)
  case atStart => exact ⟨0, Nat.zero_le _, rfl, hown1, hb0⟩
  case round =>
    clear hown1 hb0
    obtain ⟨k, hk, rfl, hown, hb⟩ := hrel
    by_cases hlt : k < s.size
    · have hxk := sInts_at hlt
      have hbyte : (s[k].toNat : Int) ≤ 255 := by have := s[k].toNat_lt; omega
      obtain ⟨g, rfl, hBg, hgw, hcell, hfz, hset⟩ := own_block hown (by omega)
      have hc : wr.cell? ⟨g, k, none⟩ = some (.int .i64 ((fill (sInts s) 0 s.size k).getD k 0)) := by
        rw [hcell k hlt]
        have : k < (fill (sInts s) 0 s.size k).length := by rw [fill_length (sInts_length s) hk]; exact hlt
        simp [List.getD, List.getElem?_eq_getElem this]
      generalize (fill (sInts s) 0 s.size k).getD k 0 = old at hc
      have hf := hfz k
      obtain ⟨hs1, hs2⟩ := hset k (.int .i64 (s[k].toNat : Int))
      rw [← List.map_set, fill_set (sInts_length s) hlt hxk] at hs1
      clear hcell hfz hset
      replace hxk := Lib.hid hxk
      go_wp2
      go_roundw
      case rel => exact ⟨k + 1, by omega, by go_num, hs1, hb.grown hs2 (Nat.le_of_lt (Nat.lt_of_le_of_lt hBg hgw)) (fun j h => by injection h with h; omega)⟩
      case measure => simp [intOf]; omega
    · have hk' : Hid (k = s.size) := by have : k = s.size := by omega
                                        exact this
      go_wp2
      go_ret
      rw [hk'.out, fill_all (sInts_length s)] at hown
      exact ⟨A1, s.size, s.size, rfl, hown, hb⟩
set_option maxRecDepth 20000 in
set_option maxHeartbeats 1000000 in
theorem l1Text_any (s : ByteArray) (w : World) (hs : s.size ≤ 1048576) : Calls Tryd.prog 89 #[.string s] w (RetI w (sInts s)) := by
  obtain ⟨i0, hi, hz0, hz1, hz2⟩ := info_parts Tryd.infoInt
  go_enter Tryd.func89, Tryd.ntmps89
  go_wp2
  go_loopw [3, 4] (fun v i wr => ∃ (k : Nat) (A : Option Addr) (c : Nat), k ≤ s.size ∧ i = .int .i64 k ∧ v = .slice A k c ∧ wr.ownsRow w.heap.size 3 1 (.slice A k c) k (ints ((sInts s).take k)) ∧ Below w.heap.size w wr) (fun _ i _ => s.size - (intOf i).toNat)
  case atStart => exact ⟨0, _, _, Nat.zero_le _, rfl, rfl, own_empty w, by go_grown⟩
  case round =>
    obtain ⟨k, A, c, hk, rfl, rfl, hown, hb⟩ := hrel
    by_cases hlt : k < s.size
    · have hxk := sInts_at hlt
      have hbyte : (s[k].toNat : Int) ≤ 255 := by have := s[k].toNat_lt; omega
      replace hxk := Lib.hid hxk
      have hsz := hb.size
      have h1c := ints_oneCell .i64 [(s[k].toNat : Int)]
      have h63 : k + 1 ≤ maxLen := by unfold maxLen; omega
      have hbb : (k + 1) * 8 ≤ 140737488355328 := by omega
      have hbase : w.heap.size ≤ (wr.alloc (.cells #[.int .i64 (s[k].toNat : Int)] 3)).heap.size := by simp; omega
      go_wp2_with (at_builtin; refine wpList_append_own _ rfl _ _ 22 rfl w.heap.size 3 i0 (.int .i64 0) 1 8 Tryd.underlying22 hi hz0 hz1 hz2 rfl (by decide) _ _ _ rfl (hown.alloc _) ⟨wr.heap.size, 0, none⟩ 1 1 [.int .i64 (s[k].toNat : Int)] rfl rfl (cell_one_new _ _ _) h1c h63 hbb hbase ?_)
      intro v' w1 hown1 hg1 _
      replace hown1 : w1.ownsRow w.heap.size 3 1 v' (k + 1) (ints ((sInts s).take (k + 1))) := by
        rw [← take_snoc_int hxk.out]
        simpa only [ints, List.map_take] using hown1
      obtain ⟨A', c', rfl, _, _⟩ := own_form hown1
      have hb1 := (hb.alloc hsz (.cells #[.int .i64 (s[k].toNat : Int)] 3)).grown hg1 hbase (own_frees hown)
      clear h1c h63 hbb hbase hg1 hown hb
      go_wp2
      go_roundw
      case rel => exact ⟨k + 1, A', c', by omega, by go_num, rfl, hown1, hb1⟩
      case measure => simp [intOf]; omega
    · have hk' : Hid (k = s.size) := by have : k = s.size := by omega
                                        exact this
      go_wp2
      go_ret
      refine ⟨A, k, c, rfl, ?_, hb⟩
      have e : (sInts s).take k = sInts s := List.take_of_length_le (by rw [sInts_length, hk'.out]; exact Nat.le_refl _)
      rw [e] at hown
      exact hown
end Go.Proofs.YtjlgkepbflcefaaDoor
