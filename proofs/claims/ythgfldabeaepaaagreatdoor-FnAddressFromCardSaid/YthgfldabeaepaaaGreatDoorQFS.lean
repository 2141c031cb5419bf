/- The four bytes of a text, in the reference. No condition. -/
import Derived.Test.YthgfldabeaepaaaGreatDoorLNum
import Derived.Test.YthgfldabeaepaaaGreatDoorQTI
import Derived.Test.YthgfldabeaepaaaGreatDoorAddr
namespace Go.Proofs.YthgfldabeaepaaaGreatDoor
open Go.RowKit
theorem pieces_count (c : UInt8) : ∀ l : List UInt8, (pieces c l).length ≤ l.length + 1
  | [] => by simp [pieces]
  | b :: r => by
    have ih := pieces_count c r
    by_cases h : b = c
    · subst h
      rw [pieces_same]
      simp
      omega
    · obtain ⟨p, ps, e⟩ : ∃ p ps, pieces c r = p :: ps := by
        cases e : pieces c r with
        | nil => exact absurd e (pieces_ne c r)
        | cons p ps => exact ⟨p, ps, rfl⟩
      rw [pieces_other h e]
      rw [e] at ih
      simp at ih ⊢
      omega
theorem lets_txt (l : List UInt8) : lets (txt l) = l := by simp [lets]
theorem txt_lets (s : ByteArray) : txt (lets s) = s := lets_inj (lets_txt _)
theorem quadT_dec {q : List Int} (h : qv q = true) : (quadT q).length ≤ 15 ∧ 7 ≤ (quadT q).length ∧ (quadT q).count 46 = 3 := by
  have hone : ∀ x : Int, 0 ≤ x ∧ x ≤ 255 → 1 ≤ (Lib.itoa x).length ∧ (Lib.itoa x).length ≤ 3 ∧ (Lib.itoa x).count 46 = 0 := by
    intro x hx
    have hno := dot_itoa (x := x) hx.1 (c := 46) (by decide)
    obtain ⟨u, rfl⟩ := Int.eq_ofNat_of_zero_le hx.1
    refine ⟨?_, ?_, List.count_eq_zero.2 hno⟩
    · rw [itoa_nat, Lib.decDigits_length]
      exact Lib.nDigits_pos u
    · rw [itoa_nat, Lib.decDigits_length]
      by_cases h0 : u < 10
      · rw [Lib.nDigits_small h0]; omega
      · rw [Lib.nDigits_big h0]
        by_cases h1 : u / 10 < 10
        · rw [Lib.nDigits_small h1]; omega
        · rw [Lib.nDigits_big h1, Lib.nDigits_small (by omega)]; omega
  obtain ⟨a, b, g, d, rfl, ha, hb, hg, hd⟩ := qv_four h
  have ra := hone a ha
  have rb := hone b hb
  have rg := hone g hg
  have rd := hone d hd
  unfold quadT
  simp only [List.map_cons, List.map_nil, join_cons2, Lib.join_one, List.length_append, List.length_cons, List.count_append, List.count_cons_self]
  omega
theorem quadS_short (q : List Int) : (quadS q).length ≤ 15 := by
  unfold quadS
  split
  · rename_i h
    exact (quadT_dec h).1
  · simp
theorem quadF_of (l : List UInt8) : quadF l = if quadS ((pieces 46 l).map num5) = l ∧ l ≠ [] then ((pieces 46 l).map num5, true) else ([], false) := by
  unfold quadF quadS
  cases hq : qv ((pieces 46 l).map num5) with
  | true =>
    by_cases h : quadT ((pieces 46 l).map num5) = l
    · have hne : l ≠ [] := by rw [← h]; exact quadT_ne hq
      simp [h, hne]
    · simp [h]
  | false =>
    by_cases h : l = []
    · simp [h]
    · simp [h, Ne.symm h]
theorem isEmpty_size2 (s : ByteArray) : s.toList.isEmpty = decide (s.size = 0) := by
  rw [text_toList, ← lets_length, Bool.eq_iff_iff, List.isEmpty_iff_length_eq_zero]
  simp
/-- The numbers of pieces. -/
def nums (ps : List ByteArray) : List Int := ps.map fun p => num5 (lets p)
theorem nums_snoc {ps : List ByteArray} {k : Nat} {p : ByteArray} (h : ps[k]? = some p) : nums (ps.take k) ++ [num5 (lets p)] = nums (ps.take (k + 1)) := by
  unfold nums
  rw [List.take_add_one, h]
  simp
theorem nums_pieces {ps : List ByteArray} {c : UInt8} {l : List UInt8} (h : ps.map lets = pieces c l) : nums ps = (pieces c l).map num5 := by
  rw [← h]
  simp [nums]
theorem piece_size {ps : List ByteArray} {c : UInt8} {s : ByteArray} {k : Nat} {p : ByteArray} (h : ps.map lets = pieces c (lets s)) (hp : ps[k]? = some p) : p.size ≤ s.size := by
  have hmem : lets p ∈ pieces c (lets s) := by
    rw [← h]
    exact List.mem_map_of_mem (List.mem_of_getElem? hp)
  have := piece_length hmem
  rwa [lets_length, lets_length] at this
theorem pieces_room {ps : List ByteArray} {c : UInt8} {s : ByteArray} (h : ps.map lets = pieces c (lets s)) : ps.length ≤ s.size + 1 := by
  have h2 := pieces_count c (lets s)
  rwa [← h, List.length_map, lets_length] at h2
set_option maxRecDepth 20000 in
set_option maxHeartbeats 2000000 in
theorem quadFrom_spec (s : ByteArray) (w : World) (hs : s.size ≤ 2000000) (q : List Int) (b : Bool) (h : quadF (lets s) = (q, b)) :
    Calls Tryz.prog 36 #[.string s] w (RetIB w q b) := by
  obtain ⟨i0, hi, hz0, hz1, hz2⟩ := info_parts Tryz.infoInt
  rw [quadF_of] at h
  replace h := Lib.hid h
  go_enter Tryz.func36, Tryz.ntmps36
  go_wp2_with fail
  refine (l2Cut_any s 46 46 rfl _ (by omega)).mono ?_
  rintro e w1 ⟨A, n, cap, ps, rfl, hps, ho1, hB1⟩
  have hr1 := Rd.own ho1
  have hsz1 := hB1.size
  have hnl : n ≤ 2000001 := by
    have h1 := hr1.slen
    have h2 := pieces_room hps
    omega
  have hnum := nums_pieces hps
  rw [← hnum] at h
  replace hps := Lib.hid hps
  clear ho1 hnum
  go_wp2
  go_loopw [5, 6] (fun v i wr => ∃ (k : Nat) (B : Option Addr) (c : Nat), k ≤ n ∧ i = .int .i64 k ∧ v = .slice B k c ∧ wr.ownsRow w1.heap.size 3 1 (.slice B k c) k (ints (nums (ps.take k))) ∧ Below w1.heap.size w1 wr) (fun _ i _ => n - (intOf i).toNat)
  case atStart => exact ⟨0, _, _, Nat.zero_le _, rfl, rfl, own_empty w1, by go_grown⟩
  case round =>
    obtain ⟨k, B, c, hk, rfl, rfl, hown, hb⟩ := hrel
    have hsz := hb.size
    have hrd := hr1.below hb
    by_cases hlt : k < n
    · obtain ⟨b1, o1, p, rfl, hpk, hcp⟩ := hrd.str hlt
      have hps1 := piece_size hps.out hpk
      have hsnoc := nums_snoc hpk
      obtain ⟨x, hx⟩ : ∃ x, num5 (lets p) = x := ⟨_, rfl⟩
      rw [hx] at hsnoc
      replace hsnoc := Lib.hid hsnoc
      replace hpk := Lib.hid hpk
      go_wp2_with fail
      refine (l2Number_any p _ (by omega)).mono ?_
      rintro e w2 ⟨rfl, rfl⟩
      rw [hx]
      clear hx
      have h1c := ints_oneCell .i64 [x]
      have h63 : k + 1 ≤ maxLen := by unfold maxLen; omega
      have hbb : (k + 1) * 8 ≤ 140737488355328 := by omega
      have hbase : w1.heap.size ≤ (wr.alloc (.cells #[.int .i64 x] 3)).heap.size := by simp; omega
      go_wp2_with (at_builtin; refine wpList_append_own _ rfl _ _ 24 rfl w1.heap.size 3 i0 (.int .i64 0) 1 8 Tryz.underlying24 hi hz0 hz1 hz2 rfl (by decide) _ _ _ rfl (hown.alloc _) ⟨wr.heap.size, 0, none⟩ 1 1 [.int .i64 x] rfl rfl (cell_one_new _ _ _) h1c h63 hbb hbase ?_)
      intro v' w2 hown1 hg1 _
      replace hown1 : w2.ownsRow w1.heap.size 3 1 v' (k + 1) (ints (nums (ps.take (k + 1)))) := by
        rw [← hsnoc.out]
        simpa only [ints, List.map_append, List.map_cons, List.map_nil] using hown1
      obtain ⟨B', c', rfl, _, _⟩ := own_form hown1
      have hb1 := (hb.alloc hsz (.cells #[.int .i64 x] 3)).grown hg1 hbase (own_frees hown)
      clear h1c h63 hbb hbase hg1 hown hb hrd
      go_wp2
      go_roundw
      case rel => exact ⟨k + 1, B', c', by omega, by go_num, rfl, hown1, hb1⟩
      case measure => simp [intOf]; omega
    · have hk' : k = n := by omega
      subst hk'
      have hall : ps.take k = ps := List.take_of_length_le (Nat.le_of_eq hrd.slen)
      rw [hall] at hown
      have hnk : ¬ (k : Int) < (k : Int) := by omega
      go_wp2_with fail
      refine (quadText_spec _ _ _ _ _ (Rd.own hown)).mono ?_
      rintro e w2 ⟨rfl, hB2⟩
      have hb2 := bstep hB1 (bstep hb hB2)
      have hown2 := own_below hown hB2
      clear hB2 hown hb hrd
      by_cases h1 : quadS (nums ps) = lets s
      · have ht : txt (quadS (nums ps)) = s := (congrArg txt h1).trans (txt_lets s)
        rw [ht]
        clear ht
        by_cases h2 : s.size = 0
        · have hf := h.out
          rw [if_neg (fun hc => hc.2 (List.length_eq_zero_iff.1 (by rw [lets_length]; exact h2)))] at hf
          injection hf with e1 e2
          subst e1 e2
          obtain rfl := empty_of_size h2
          clear h h1
          go_wp2_with fail
          go_ret2
          exact ⟨_, 0, _, rfl, own_base (own_empty w2) hb2.size, bstep hb2 (by go_grown)⟩
        · have hf := h.out
          rw [if_pos ⟨h1, fun hc => h2 (by rw [← lets_length, hc]; rfl)⟩] at hf
          injection hf with e1 e2
          subst e1 e2
          have hse : s.toList.isEmpty = false := by rw [isEmpty_size2, decide_eq_false h2]
          clear h h1
          replace h2 := Lib.hid h2
          go_wp2_with fail
          go_ret2
          exact ⟨B, k, c, rfl, own_base hown2 hsz1, hb2⟩
      · have hf := h.out
        rw [if_neg (fun hc => h1 hc.1)] at hf
        injection hf with e1 e2
        subst e1 e2
        have ht : txt (quadS (nums ps)) ≠ s := fun hc => h1 (by rw [← hc, lets_txt])
        generalize txt (quadS (nums ps)) = T at ht ⊢
        have ht1 := text_ne ht
        have ht2 : (T.toList == s.toList) = false := by
          rw [beq_eq_false_iff_ne, text_toList, text_toList]
          exact fun hc => ht (lets_inj hc)
        clear h h1
        replace ht := Lib.hid ht
        go_wp2_with fail
        go_ret2
        exact ⟨_, 0, _, rfl, own_base (own_empty w2) hb2.size, bstep hb2 (by go_grown)⟩
end Go.Proofs.YthgfldabeaepaaaGreatDoor
