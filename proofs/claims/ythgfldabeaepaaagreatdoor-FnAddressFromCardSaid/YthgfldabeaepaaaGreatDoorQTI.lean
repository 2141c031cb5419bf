/- The text of four bytes, in the program and in the reference. No condition. -/
import Derived.Test.YthgfldabeaepaaaGreatDoorQT
import Derived.Test.YthgfldabeaepaaaGreatDoorTen
import Derived.Test.YthgfldabeaepaaaGreatDoorBytes
namespace Go.Proofs.YthgfldabeaepaaaGreatDoor
open Go.RowKit Go.Sort
/-- A row of n texts of which the first k are those of ps. -/
def fillS (ps : List ByteArray) (n k : Nat) : List ByteArray := ps.take k ++ List.replicate (n - k) ByteArray.empty
theorem fillS_zero (ps : List ByteArray) (n : Nat) : fillS ps n 0 = List.replicate n ByteArray.empty := by simp [fillS]
theorem fillS_all {ps : List ByteArray} {n : Nat} (h : ps.length = n) : fillS ps n n = ps := by simp [fillS, List.take_of_length_le (Nat.le_of_eq h)]
theorem fillS_length {ps : List ByteArray} {n k : Nat} (h : ps.length = n) (hk : k ≤ n) : (fillS ps n k).length = n := by simp [fillS]; omega
theorem fillS_set {ps : List ByteArray} {n k : Nat} {p : ByteArray} (h : ps.length = n) (hk : k < n) (hp : ps[k]? = some p) : (fillS ps n k).set k p = fillS ps n (k + 1) := by
  have hl : (ps.take k).length = k := by simp; omega
  unfold fillS
  rw [List.set_append_right k p (by omega), hl, Nat.sub_self, List.take_add_one, hp]
  rw [show n - k = (n - (k + 1)) + 1 by omega, List.replicate_succ]
  simp
/-- The texts of numbers. -/
def itoas (q : List Int) : List ByteArray := q.map fun x => txt (Lib.itoa x)
theorem itoas_length (q : List Int) : (itoas q).length = q.length := by simp [itoas]
theorem itoas_at {q : List Int} {k : Nat} {x : Int} (h : q[k]? = some x) : (itoas q)[k]? = some (txt (Lib.itoa x)) := by simp [itoas, h]
theorem itoas_lets (q : List Int) : (itoas q).map (·.data.toList) = q.map Lib.itoa := by simp [itoas, txt]
theorem quadText_spec (A : Option Addr) (n c : Nat) (q : List Int) (w : World) (hx : Rd w A n (ints q)) :
    Calls Tryz.prog 51 #[.slice A n c] w fun e w' => e = .returned (.string (txt (quadS q))) ∧ Below w.heap.size w w' := by
  cases hq : qv q with
  | true =>
    have e : quadS q = quadT q := if_pos hq
    rw [e]
    go_enter Tryz.func51, Tryz.ntmps51
    go_wp2_with (go_at_call 38; refine (quadValid_spec _ _ _ _ _ hx _ hq).mono ?_; rintro e1 w1 ⟨rfl, rfl⟩)
    refine (l2Quad_any _ _ _ _ _ hx hq).mono ?_
    rintro e2 w2 ⟨rfl, hB2⟩
    go_wp2_with fail
    go_ret
    exact ⟨rfl, hB2⟩
  | false =>
    have e : quadS q = [] := if_neg (by simp [hq])
    rw [e]
    go_enter Tryz.func51, Tryz.ntmps51
    go_wp2_with (go_at_call 38; refine (quadValid_spec _ _ _ _ _ hx _ hq).mono ?_; rintro e1 w1 ⟨rfl, rfl⟩)
    go_ret
    exact ⟨rfl, Below.refl _ _⟩
set_option maxRecDepth 20000 in
set_option maxHeartbeats 1000000 in
theorem quadText_fn (A : Option Addr) (n c : Nat) (q : List Int) (w : World) (hx : Rd w A n (ints q)) (hq : qv q = true) (hP : EnvP w) :
    Calls Tryz.prog 58 #[.slice A n c] w fun e w' => e = .returned (.string (txt (quadT q))) ∧ Below w.heap.size w w' := by
  obtain ⟨i0, hi, hz0, hz1, hz2⟩ := info_parts Tryz.infoStr
  have hql := qv_true.1 hq
  obtain rfl : n = 4 := by have := hx.ilen; omega
  have hby : i0.bytes * 4 ≤ 281474976710656 := by rw [hz2]; omega
  have hml : 4 ≤ maxLen := by unfold maxLen; omega
  have hvals := hql.2
  have hpl : (itoas q).length = 4 := by rw [itoas_length]; exact hql.1
  have hjoin : Hid (Lib.join ((itoas q).map (·.data.toList)) [46] = quadT q) := by
    show _ = _
    rw [itoas_lets]
    rfl
  have hshort : (quadT q).length ≤ 140737488355328 := by
    obtain ⟨a, b, g, d, rfl, ha, hb, hg, hd⟩ := qv_four hq
    obtain ⟨a, rfl⟩ := Int.eq_ofNat_of_zero_le ha.1
    obtain ⟨b, rfl⟩ := Int.eq_ofNat_of_zero_le hb.1
    obtain ⟨g, rfl⟩ := Int.eq_ofNat_of_zero_le hg.1
    obtain ⟨d, rfl⟩ := Int.eq_ofNat_of_zero_le hd.1
    unfold quadT
    simp only [List.map_cons, List.map_nil, itoa_nat, join_cons2, Lib.join_one, List.length_append, List.length_cons, Lib.decDigits_length]
    have := Lib.nDigits_le20 a (by omega)
    have := Lib.nDigits_le20 b (by omega)
    have := Lib.nDigits_le20 g (by omega)
    have := Lib.nDigits_le20 d (by omega)
    omega
  clear hq hql
  go_enter Tryz.func58, Tryz.ntmps58
  go_wp2_with (at_make; refine wpList_make_full _ rfl _ _ 38 rfl w.heap.size 9 i0 _ 1 Tryz.underlying38 hi hz0 hz1 _ _ _ _ 4 rfl rfl rfl rfl hby hml (Nat.le_refl _) ?_)
  intro w1 hown0 hg0
  clear hi hz0 hz1 hz2 hby hml
  have hb0 : Below w.heap.size w w1 := grown_below hg0 (Nat.le_refl _) (fun k h => by cases h)
  have hown1 : w1.ownsRow w.heap.size 9 1 (.slice (some ⟨w.heap.size, 0, none⟩) 4 4) 4 (strs (fillS (itoas q) 4 0)) := by
    rw [fillS_zero]
    simpa [toList_madeCells_one] using hown0
  clear hown0
  generalize hA : (some (⟨w.heap.size, 0, none⟩ : Addr)) = A1 at hown1 ⊢
  clear hA
  replace hpl := Lib.hid hpl
  replace hvals := Lib.hid hvals
  go_wp2
  go_loopw [11] (fun i wr => ∃ k : Nat, k ≤ 4 ∧ i = .int .i64 k ∧ wr.ownsRow w.heap.size 9 1 (.slice A1 4 4) 4 (strs (fillS (itoas q) 4 k)) ∧ Below w.heap.size w wr) (fun i _ => 4 - (intOf i).toNat)
  case atStart => exact ⟨0, Nat.zero_le _, rfl, hown1, hb0⟩
  case round =>
    clear hown1 hb0
    obtain ⟨k, hk, rfl, hown, hb⟩ := hrel
    by_cases hlt : k < 4
    · obtain ⟨b1, o1, x, rfl, hxk, hc1⟩ := (hx.below hb).int hlt
      have hxr := hvals.out x (List.mem_of_getElem? hxk)
      have hP1 := hP.step hb
      have hpk := itoas_at hxk
      replace hxk := Lib.hid hxk
      have hlt' : (k : Int) < 4 := by omega
      go_wp2_with fail
      refine (itoa_any x (by omega) (by omega) _ hP1).mono ?_
      rintro e w2 ⟨rfl, hB2⟩
      have hb2 := bstep hb hB2
      replace hown := own_below hown hB2
      obtain ⟨g, rfl, hBg, hgw, hcell, hfz, hset⟩ := own_block hown (by omega)
      obtain ⟨old, hold⟩ : ∃ old, (strs (fillS (itoas q) 4 k))[k]? = some old := ⟨_, List.getElem?_eq_getElem (by rw [List.length_map, fillS_length hpl.out hk]; exact hlt)⟩
      have hc := hcell k hlt
      rw [hold] at hc
      have hf := hfz k
      obtain ⟨hs1, hs2⟩ := hset k (.string (txt (Lib.itoa x)))
      rw [← List.map_set, fillS_set hpl.out hlt hpk] at hs1
      clear hcell hfz hset hold hpk
      go_wp2
      go_roundw
      case rel => exact ⟨k + 1, by omega, by go_num, hs1, hb2.grown hs2 (Nat.le_of_lt (Nat.lt_of_le_of_lt hBg hgw)) (fun j h => by injection h with h; omega)⟩
      case measure => simp [intOf]; omega
    · obtain rfl : k = 4 := by omega
      rw [fillS_all hpl.out] at hown
      obtain ⟨g, rfl, hBg, hgw, hcell, hfz, hset⟩ := own_block hown (by omega)
      have hcells : ∀ (j : Nat) x, (itoas q)[j]? = some x → wr.cell? ⟨g, 0 + j, none⟩ = some (.string x) := by
        intro j x hj
        have hjl := (List.getElem?_eq_some_iff.1 hj).1
        rw [hpl.out] at hjl
        rw [Nat.zero_add, hcell j hjl, List.getElem?_map, hj]
        rfl
      have hjo : Lib.join ((itoas q).map (·.data.toList)) (⟨#[46]⟩ : ByteArray).data.toList = quadT q := hjoin.out
      have hj2 := Tryz.strings_Join g 0 4 (itoas q) ⟨#[46]⟩ wr hcells hgw (by rw [hpl.out]; omega) (by rw [hpl.out]; omega) (by rw [hjo]; exact hshort)
      rw [hpl.out, hjo] at hj2
      clear hcells hjo hcell hfz hset hown hjoin
      go_wp2_with fail
      refine hj2.mono ?_
      rintro e w2 ⟨rfl, hB2⟩
      have hb2 := bstep hb hB2
      go_wp2_with fail
      go_ret
      exact ⟨rfl, hb2⟩
end Go.Proofs.YthgfldabeaepaaaGreatDoor
