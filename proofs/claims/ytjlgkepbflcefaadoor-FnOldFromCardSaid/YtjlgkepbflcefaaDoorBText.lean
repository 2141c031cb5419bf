/- What BytesText and NumberOf return, in the program and in the reference. No condition. -/
import Derived.Test.YtjlgkepbflcefaaDoorBytes
namespace Go.Proofs.YtjlgkepbflcefaaDoor
open Go.RowKit

theorem Tryd.infoU8 : (Tryd.prog.info? 5).map (fun i => (i.zero, i.size, i.bytes)) = some (some (.int .u8 0), 1, 1) := by kernel_rfl

/-- A slice of bytes as a string. -/
theorem conv_rd {w : World} {A : Option Addr} {n : Nat} {zs : List Int} (h : Rd w A n (zs.map (Value.int .u8))) (c : Nat) :
    (convert 33 9 (.slice A n c)).run Tryd.prog w = .ok (.string (strOfNums zs)) w := by
  have hl : zs.length = n := by simpa using h.len
  by_cases hn : n = 0
  · subst hn
    have hz : zs = [] := List.eq_nil_of_length_eq_zero hl
    subst hz
    cases A with
    | none => exact run_convert_bytes_nil w 33 5 Tryd.underlying33 Tryd.underlying5 0 c 9 Tryd.underlying9
    | some a =>
      rw [run_convert_bytes_string w 33 9 5 _ 0 c Tryd.underlying33 Tryd.underlying5 Tryd.underlying9]
      have := run_loadCells_list (P := Tryd.prog) w a [] (fun j v hj => by simp at hj)
      rw [run_bytesToString w a 0 c [] (by simpa using this)]
      rfl
  · obtain ⟨b, off, rfl, hc⟩ := h.2.2 (by omega)
    exact run_convert_bytes_arg w 33 5 Tryd.underlying33 Tryd.underlying5 b off n c zs hl (fun i hi => hc i _ (by simp [List.getD, List.getElem?_eq_getElem (show i < zs.length by omega)])) 9 Tryd.underlying9

set_option maxRecDepth 20000 in
set_option maxHeartbeats 1000000 in
theorem bytesText_fn (A : Option Addr) (n c : Nat) (zs : List Int) (w : World) (hx : Rd w A n (ints zs)) (hn : n ≤ 1048576) (hv : ∀ x ∈ zs, 0 ≤ x ∧ x ≤ 255) :
    Calls Tryd.prog 93 #[.slice A n c] w fun e w' => e = .returned (.string (strOfNums zs)) ∧ Below w.heap.size w w' := by
  obtain ⟨i0, hi, hz0, hz1, hz2⟩ := info_parts Tryd.infoU8
  have hby : i0.bytes * n ≤ 281474976710656 := by rw [hz2]; omega
  have hml : n ≤ maxLen := by unfold maxLen; omega
  have hl := hx.ilen
  replace hl := Lib.hid hl
  replace hv := Lib.hid hv
  go_enter Tryd.func93, Tryd.ntmps93
  go_wp2_with (at_make; refine wpList_make_full _ rfl _ _ 33 rfl w.heap.size 5 i0 _ 1 Tryd.underlying33 hi hz0 hz1 _ _ _ _ n rfl rfl rfl rfl hby hml (Nat.le_refl _) ?_)
  intro w1 hown0 hg0
  clear hi hz0 hz1 hz2 hby hml
  have hb0 : Below w.heap.size w w1 := grown_below hg0 (Nat.le_refl _) (fun k h => by cases h)
  have hown1 : w1.ownsRow w.heap.size 5 1 (.slice (some ⟨w.heap.size, 0, none⟩) n n) n ((fill zs 0 n 0).map (Value.int .u8)) := by
    rw [fill_zero]
    simpa [toList_madeCells_one] using hown0
  clear hown0
  generalize hA : (some (⟨w.heap.size, 0, none⟩ : Addr)) = A1 at hown1 ⊢
  clear hA
  go_wp2
  go_loopw [11] (fun i wr => ∃ k : Nat, k ≤ n ∧ i = .int .i64 k ∧ wr.ownsRow w.heap.size 5 1 (.slice A1 n n) n ((fill zs 0 n k).map (Value.int .u8)) ∧ Below w.heap.size w wr) (fun i _ => n - (intOf i).toNat)
  case atStart => exact ⟨0, Nat.zero_le _, rfl, hown1, hb0⟩
  case round =>
    clear hown1 hb0
    obtain ⟨k, hk, rfl, hown, hb⟩ := hrel
    by_cases hlt : k < n
    · obtain ⟨b1, o1, x, rfl, hxk, hc1⟩ := (hx.below hb).int hlt
      obtain ⟨hx0, hx1⟩ := hv.out x (List.mem_of_getElem? hxk)
      obtain ⟨g, rfl, hBg, hgw, hcell, hfz, hset⟩ := own_block hown (by omega)
      have hc : wr.cell? ⟨g, k, none⟩ = some (.int .u8 ((fill zs 0 n k).getD k 0)) := by
        rw [hcell k hlt]
        have : k < (fill zs 0 n k).length := by rw [fill_length hl.out hk]; exact hlt
        simp [List.getD, List.getElem?_eq_getElem this]
      generalize (fill zs 0 n k).getD k 0 = old at hc
      have hf := hfz k
      obtain ⟨hs1, hs2⟩ := hset k (.int .u8 x)
      rw [← List.map_set, fill_set hl.out hlt hxk] at hs1
      clear hcell hfz hset
      replace hxk := Lib.hid hxk
      go_wp2
      go_roundw
      case rel => exact ⟨k + 1, by omega, by go_num, hs1, hb.grown hs2 (Nat.le_of_lt (Nat.lt_of_le_of_lt hBg hgw)) (fun j h => by injection h with h; omega)⟩
      case measure => simp [intOf]; omega
    · have hk' : k = n := by omega
      rw [hk', fill_all hl.out] at hown
      have hcv := conv_rd (Rd.own hown) n
      replace hk' := Lib.hid hk'
      go_wp2
      go_ret
      exact ⟨rfl, hb⟩
theorem take_snoc_u8 {zs : List Int} {k : Nat} {x : Int} (h : zs[k]? = some x) : (zs.take k).map (Value.int .u8) ++ [.int .u8 x] = (zs.take (k + 1)).map (Value.int .u8) := by
  rw [List.take_add_one, h]
  simp
set_option maxRecDepth 20000 in
set_option maxHeartbeats 1000000 in
theorem l1Bytes_any (A : Option Addr) (n c : Nat) (zs : List Int) (w : World) (hx : Rd w A n (ints zs)) (hn : n ≤ 1048576) (hv : ∀ x ∈ zs, 0 ≤ x ∧ x ≤ 255) :
    Calls Tryd.prog 45 #[.slice A n c] w fun e w' => e = .returned (.string (strOfNums zs)) ∧ Below w.heap.size w w' := by
  obtain ⟨i0, hi, hz0, hz1, hz2⟩ := info_parts Tryd.infoU8
  have hl := hx.ilen
  replace hl := Lib.hid hl
  replace hv := Lib.hid hv
  have hown0 : (w.alloc (.cells #[] 5)).ownsRow w.heap.size 5 1 (.slice (some ⟨w.heap.size, 0, none⟩) 0 0) 0 ((zs.take 0).map (Value.int .u8)) := World.ownsRow_lit _ _ 0 (Nat.le_refl _) (by decide) rfl
  go_enter Tryd.func45, Tryd.ntmps45
  go_wp2
  go_loopw [3, 4] (fun v i wr => ∃ (k : Nat) (A' : Option Addr) (c' : Nat), k ≤ n ∧ i = .int .i64 k ∧ v = .slice A' k c' ∧ wr.ownsRow w.heap.size 5 1 (.slice A' k c') k ((zs.take k).map (Value.int .u8)) ∧ Below w.heap.size w wr) (fun _ i _ => n - (intOf i).toNat)
  case atStart => exact ⟨0, _, _, Nat.zero_le _, rfl, rfl, hown0, by go_grown⟩
  case round =>
    clear hown0
    obtain ⟨k, A', c', hk, rfl, rfl, hown, hb⟩ := hrel
    by_cases hlt : k < n
    · obtain ⟨b1, o1, x, rfl, hxk, hc1⟩ := (hx.below hb).int hlt
      obtain ⟨hx0, hx1⟩ := hv.out x (List.mem_of_getElem? hxk)
      replace hxk := Lib.hid hxk
      have hsz := hb.size
      have h1c := ints_oneCell .u8 [x]
      have h63 : k + 1 ≤ maxLen := by unfold maxLen; omega
      have hbb : (k + 1) * 1 ≤ 140737488355328 := by omega
      have hbase : w.heap.size ≤ (wr.alloc (.cells #[.int .u8 x] 5)).heap.size := by simp; omega
      go_wp2_with (at_builtin; refine wpList_append_own _ rfl _ _ 33 rfl w.heap.size 5 i0 (.int .u8 0) 1 1 Tryd.underlying33 hi hz0 hz1 hz2 rfl (by decide) _ _ _ rfl (hown.alloc _) ⟨wr.heap.size, 0, none⟩ 1 1 [.int .u8 x] rfl rfl (cell_one_new _ _ _) h1c h63 hbb hbase ?_)
      intro v' w1 hown1 hg1 _
      replace hown1 : w1.ownsRow w.heap.size 5 1 v' (k + 1) ((zs.take (k + 1)).map (Value.int .u8)) := by
        rw [← take_snoc_u8 hxk.out]
        simpa only [List.map_take] using hown1
      obtain ⟨A2, c2, rfl, _, _⟩ := own_form hown1
      have hb1 := (hb.alloc hsz (.cells #[.int .u8 x] 5)).grown hg1 hbase (own_frees hown)
      clear h1c h63 hbb hbase hg1 hown hb
      go_wp2
      go_roundw
      case rel => exact ⟨k + 1, A2, c2, by omega, by go_num, rfl, hown1, hb1⟩
      case measure => simp [intOf]; omega
    · have hk' : k = n := by omega
      rw [List.take_of_length_le (by rw [hl.out]; omega)] at hown
      have hcv := conv_rd (Rd.own hown) c'
      replace hk' := Lib.hid hk'
      go_wp2
      go_ret
      exact ⟨rfl, hb⟩
theorem numOf_take_bound {zs : List Int} {k : Nat} (hv : ∀ x ∈ zs, 0 ≤ x ∧ x ≤ 255) (hk : k ≤ zs.length) (h3 : k ≤ 3) : 0 ≤ numOf (zs.take k) ∧ numOf (zs.take k) < 16777216 := by
  have := numOf_bound k (zs.take k) (by simp; omega) fun x hx => hv x (List.mem_of_mem_take hx)
  refine ⟨this.1, Int.lt_of_lt_of_le this.2 ?_⟩
  obtain rfl | rfl | rfl | rfl : k = 0 ∨ k = 1 ∨ k = 2 ∨ k = 3 := by omega
  all_goals decide
theorem numOf_take_succ {zs : List Int} {k : Nat} {x : Int} (h : zs[k]? = some x) : numOf (zs.take (k + 1)) = numOf (zs.take k) * 256 + x := by
  rw [List.take_add_one, h]
  exact numOf_snoc _ _
theorem wraps63 (n : Int) (h₀ : 0 ≤ n) (h₁ : n < 2 ^ 63) : IntKind.i64.wrap n = n := by rw [IntKind.wrap_i64]; omega
theorem or_shift {a x : Int} (ha : 0 ≤ a) (ha' : a < 16777216) (hx : 0 ≤ x) (hx' : x ≤ 255) : bits .or .i64 (a * 256) x = a * 256 + x :=
  bits_join .i64 63 (by decide) wraps63 8 (a * 256) x (by omega) (by omega) (by omega) hx (by omega) (by omega)
set_option maxRecDepth 20000 in
set_option maxHeartbeats 1000000 in
theorem number_any (A : Option Addr) (n c : Nat) (zs : List Int) (w : World) (hx : Rd w A n (ints zs)) (hn : n ≤ 4) (hv : ∀ x ∈ zs, 0 ≤ x ∧ x ≤ 255) :
    Calls Tryd.prog 91 #[.slice A n c] w fun e w' => e = .returned (.int .i64 (numOf zs)) ∧ w = w' := by
  have hl := hx.ilen
  replace hl := Lib.hid hl
  replace hv := Lib.hid hv
  go_enter Tryd.func91, Tryd.ntmps91
  go_wp2
  go_loop [3, 8] (fun a i => ∃ (k : Nat) (q : Int), k ≤ n ∧ i = .int .i64 k ∧ a = .int .i64 q ∧ Hid (q = numOf (zs.take k))) (fun _ i => n - (intOf i).toNat)
  case atStart => exact ⟨0, 0, Nat.zero_le _, rfl, rfl, rfl⟩
  case round =>
    obtain ⟨k, q, hk, rfl, rfl, hq⟩ := hrel
    by_cases hlt : k < n
    · obtain ⟨b1, o1, x, rfl, hxk, hc1⟩ := hx.int hlt
      obtain ⟨hx0, hx1⟩ := hv.out x (List.mem_of_getElem? hxk)
      obtain ⟨hq0, hq1⟩ := numOf_take_bound hv.out (k := k) (by rw [hl.out]; omega) (by omega)
      rw [← hq.out] at hq0 hq1
      have hor := or_shift hq0 hq1 hx0 hx1
      have hst : Hid (numOf (zs.take (k + 1)) = q * 256 + x) := by rw [hq.out]; exact numOf_take_succ hxk
      clear hxk
      go_wp2
      go_round
      case rel => exact ⟨k + 1, _, by omega, by go_num, rfl, hst.out.symm⟩
      case measure => simp [intOf]; omega
    · have hk' : k = n := by omega
      have er : q = numOf zs := by rw [hq.out, List.take_of_length_le (by rw [hl.out]; omega)]
      replace er := Lib.hid er
      replace hk' := Lib.hid hk'
      go_wp2
      go_ret
      exact ⟨by rw [← er.out]; rfl, rfl⟩
set_option maxRecDepth 20000 in
set_option maxHeartbeats 1000000 in
theorem l1Of_any (A : Option Addr) (n c : Nat) (zs : List Int) (w : World) (hx : Rd w A n (ints zs)) (hn : n ≤ 4) (hv : ∀ x ∈ zs, 0 ≤ x ∧ x ≤ 255) :
    Calls Tryd.prog 44 #[.slice A n c] w fun e w' => e = .returned (.int .i64 (numOf zs)) ∧ w = w' := by
  have hl := hx.ilen
  replace hl := Lib.hid hl
  replace hv := Lib.hid hv
  go_enter Tryd.func44, Tryd.ntmps44
  go_wp2
  go_loop [3, 4] (fun a i => ∃ (k : Nat) (q : Int), k ≤ n ∧ i = .int .i64 k ∧ a = .int .i64 q ∧ Hid (q = numOf (zs.take k))) (fun _ i => n - (intOf i).toNat)
  case atStart => exact ⟨0, 0, Nat.zero_le _, rfl, rfl, rfl⟩
  case round =>
    obtain ⟨k, q, hk, rfl, rfl, hq⟩ := hrel
    by_cases hlt : k < n
    · obtain ⟨b1, o1, x, rfl, hxk, hc1⟩ := hx.int hlt
      obtain ⟨hx0, hx1⟩ := hv.out x (List.mem_of_getElem? hxk)
      obtain ⟨hq0, hq1⟩ := numOf_take_bound hv.out (k := k) (by rw [hl.out]; omega) (by omega)
      rw [← hq.out] at hq0 hq1
      have hst : Hid (numOf (zs.take (k + 1)) = 256 * q + x) := by rw [hq.out, Int.mul_comm]; exact numOf_take_succ hxk
      clear hxk
      go_wp2
      go_round
      case rel => exact ⟨k + 1, _, by omega, by go_num, rfl, hst.out.symm⟩
      case measure => simp [intOf]; omega
    · have hk' : k = n := by omega
      have er : q = numOf zs := by rw [hq.out, List.take_of_length_le (by rw [hl.out]; omega)]
      replace er := Lib.hid er
      replace hk' := Lib.hid hk'
      go_wp2
      go_ret
      exact ⟨by rw [← er.out]; rfl, rfl⟩
end Go.Proofs.YtjlgkepbflcefaaDoor
