/- Plain laws of numbers as bytes and back. No condition. -/
import Derived.Test.YthgfldabeaepaaaGreatDoorPlain
import Derived.Test.YthgfldabeaepaaaGreatDoorMem
namespace Go.Proofs.YthgfldabeaepaaaGreatDoor

/-- What lies behind the first k. -/
theorem Rd.drop {w : World} {b o n : Nat} {vs : List Value} {k : Nat} (h : Rd w (some ⟨b, o, none⟩) n vs) (hk : k ≤ n) : Rd w (some ⟨b, o + k, none⟩) (n - k) (vs.drop k) := by
  refine ⟨by simp [h.1], by have := h.2.1; omega, fun hn => ?_⟩
  obtain ⟨b', o', hA, hc⟩ := h.2.2 (by omega)
  injection hA with hA
  injection hA with h1 h2
  subst h1 h2
  refine ⟨_, _, rfl, fun j v hv => ?_⟩
  rw [List.getElem?_drop] at hv
  have := hc _ _ hv
  rwa [Nat.add_assoc]

theorem numO_nb {k : Nat} {x : Int} (hk : 1 ≤ k ∧ k ≤ 4) (h0 : 0 ≤ x) (hp : x < 256 ^ k) : numO (nb x k) = (x, true) := by
  unfold numO
  rw [if_pos, numOf_nb k x h0 hp]
  rw [nb_length, bv_true.2 ⟨by rw [nb_length]; omega, nb_bytes k x⟩]
  simp
  omega
theorem numB_fits {k : Nat} {x : Int} (hk : 1 ≤ k ∧ k ≤ 4) (h0 : 0 ≤ x) (hp : x < 256 ^ k) : numB x k = (nb x k, true) := by
  unfold numB
  rw [if_pos (fits_true.2 ⟨by omega, h0, by rw [pow256_eq hk rfl]; exact hp⟩)]
  rfl
theorem numB_great {k : Nat} {x : Int} (hk : 1 ≤ k ∧ k ≤ 4) (hp : 256 ^ k ≤ x) : numB x k = ([], false) := by
  unfold numB
  rw [if_neg]
  intro h
  have := (fits_true.1 h).2.2
  rw [pow256_eq hk rfl] at this
  omega
theorem numB_less {k : Nat} {x : Int} (hp : x < 0) : numB x k = ([], false) := by
  unfold numB
  rw [if_neg]
  intro h
  have := (fits_true.1 h).2.1
  omega
theorem numO_true {zs : List Int} {x : Int} (h : numO zs = (x, true)) : (1 ≤ zs.length ∧ zs.length ≤ 4) ∧ bv zs = true ∧ x = numOf zs := by
  unfold numO at h
  by_cases hc : (decide (1 ≤ zs.length) && decide (zs.length ≤ 4) && bv zs) = true
  · rw [if_pos hc] at h
    injection h with h1 _
    simp at hc
    exact ⟨hc.1, hc.2, h1.symm⟩
  · rw [if_neg hc] at h
    injection h with _ h2
    cases h2
theorem pow_le {n : Nat} (h : 1 ≤ n ∧ n ≤ 4) : (256 : Int) ^ n ≤ 4294967296 := by
  obtain rfl | rfl | rfl | rfl : n = 1 ∨ n = 2 ∨ n = 3 ∨ n = 4 := by omega
  all_goals decide
/-- A number's bytes. -/
theorem numO_back {zs : List Int} {n : Nat} {x : Int} (hl : zs.length = n) (h : numO zs = (x, true)) : (1 ≤ n ∧ n ≤ 4) ∧ (0 ≤ x ∧ x ≤ 4294967296) ∧ numB x n = (zs, true) := by
  subst hl
  obtain ⟨h4, hb, rfl⟩ := numO_true h
  have hv := (bv_true.1 hb).2
  have hbd := numOf_bound _ zs rfl hv
  have := pow_le h4
  refine ⟨h4, by omega, ?_⟩
  rw [numB_fits h4 hbd.1 hbd.2, nb_numOf _ zs rfl hv]
/-- All but the last byte. -/
theorem numO_front {zs : List Int} {m : Nat} {x z : Int} (hl : zs.length = m + 1) (h : numO zs = (x, true)) (hz : zs[m]? = some z) : ∃ y, numO (zs.take m) = (y, decide (0 < m)) ∧ x = 256 * y + z ∧ (0 ≤ y ∧ y ≤ 4294967296) ∧ 0 ≤ z ∧ z ≤ 255 := by
  obtain ⟨h4, hb, rfl⟩ := numO_true h
  obtain ⟨h120, hv⟩ := bv_true.1 hb
  have hzb := hv z (List.mem_of_getElem? hz)
  have e : zs.take (m + 1) = zs := List.take_of_length_le (by omega)
  have e2 : numOf zs = numOf (zs.take m) * 256 + z := by
    have e3 : zs.take (m + 1) = zs.take m ++ [z] := by rw [List.take_add_one, hz]; rfl
    rw [← numOf_snoc, ← e3, e]
  have hv' : ∀ y ∈ zs.take m, 0 ≤ y ∧ y ≤ 255 := fun y hy => hv y (List.mem_of_mem_take hy)
  have hl' : (zs.take m).length = m := by simp; omega
  by_cases h0 : m = 0
  · subst h0
    refine ⟨0, rfl, ?_, by omega, hzb⟩
    rw [e2]
    rfl
  · have hbd := numOf_bound m _ hl' hv'
    have := pow_le (n := m) (by omega)
    refine ⟨numOf (zs.take m), ?_, by omega, by omega, hzb⟩
    unfold numO
    rw [if_pos, decide_eq_true (show 0 < m by omega)]
    rw [bv_true.2 ⟨by omega, hv'⟩, hl']
    simp
    omega
theorem bytesT_back {zs : List Int} {s : ByteArray} (h : bytesT zs = (s, true)) : s.size ≤ 120 ∧ textB s = (zs, true) := by
  unfold bytesT at h
  cases hv : bv zs with
  | false => rw [hv] at h; injection h with _ h2; cases h2
  | true =>
    rw [hv] at h
    injection h with h1 _
    subst h1
    obtain ⟨h120, hb⟩ := bv_true.1 hv
    have e := sInts_strOfNums hb
    have hs : (strOfNums zs).size ≤ 120 := by rw [← sInts_length, e]; exact h120
    refine ⟨hs, ?_⟩
    unfold textB
    rw [if_pos hs, e]
theorem textB_short {s : ByteArray} (h : s.size ≤ 120) : textB s = (sInts s, true) := by
  unfold textB
  rw [if_pos h]
theorem textB_back {zs : List Int} {s : ByteArray} (h : textB s = (zs, true)) : zs = sInts s ∧ s.size ≤ 120 ∧ bytesT zs = (s, true) := by
  unfold textB at h
  by_cases hs : s.size ≤ 120
  · rw [if_pos hs] at h
    injection h with h1 _
    subst h1
    refine ⟨rfl, hs, ?_⟩
    unfold bytesT
    rw [bv_true.2 ⟨by rw [sInts_length]; exact hs, sInts_bytes s⟩, strOfNums_sInts]
    rfl
  · rw [if_neg hs] at h
    injection h with _ h2
    cases h2
theorem sInts_halves (s : ByteArray) (k : Nat) : sInts (s.extract 0 k) ++ sInts (s.extract k s.size) = sInts s := by
  have e1 : (s.extract 0 k).data.toList = s.data.toList.take k := by simp
  have e2 : (s.extract k s.size).data.toList = s.data.toList.drop k := by
    have : s.size = s.data.toList.length := by simp
    simp [List.take_of_length_le]
  unfold sInts
  rw [e1, e2, ← List.map_append, List.take_append_drop]
theorem helloB_true {ms zs : List Int} (h : helloB ms = (zs, true)) : (1 ≤ ms.length ∧ ms.length ≤ 8) ∧ zs = [5, (ms.length : Int)] ++ ms := by
  unfold helloB at h
  cases hv : methV ms with
  | true => rw [hv] at h; injection h with h1 _; exact ⟨methV_length hv, h1.symm⟩
  | false => rw [hv] at h; injection h with _ h2; cases h2
end Go.Proofs.YthgfldabeaepaaaGreatDoor
