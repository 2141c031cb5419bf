/- Texts of four bytes with something behind or before. No condition. -/
import Derived.Test.YthgfldabeaepaaaDoorQFI
namespace Go.Proofs.YthgfldabeaepaaaDoor
open Go.RowKit
theorem quadF_cases (l : List UInt8) : (∃ q, quadF l = (q, true)) ∨ quadF l = ([], false) := by
  rw [quadF_of]
  split
  · exact .inl ⟨_, rfl⟩
  · exact .inr rfl
theorem quadF_behind {l r : List UInt8} {q : List Int} (h : quadF l = (q, true)) : quadF (l ++ 46 :: r) = ([], false) := by
  obtain ⟨hq, rfl⟩ := quadF_true h
  rcases quadF_cases (quadT q ++ 46 :: r) with ⟨p, hp⟩ | hp
  · obtain ⟨hp1, hp2⟩ := quadF_true hp
    have e := congrArg List.length (quad_pieces hp1)
    rw [hp2, pieces_append, quad_pieces hq, List.length_append, List.length_map, List.length_map, (qv_true.1 hq).1, (qv_true.1 hp1).1] at e
    have : (pieces 46 r) ≠ [] := pieces_ne _ _
    have := List.length_pos_iff.2 this
    omega
  · exact hp
theorem quadF_before {l : List UInt8} {q : List Int} (h : quadF l = (q, true)) : quadF (48 :: l) = ([], false) := by
  obtain ⟨hq, rfl⟩ := quadF_true h
  rcases quadF_cases (48 :: quadT q) with ⟨p, hp⟩ | hp
  · obtain ⟨hp1, hp2⟩ := quadF_true hp
    have e := quad_pieces hp1
    obtain ⟨a, b, g, d, rfl, ha, _, _, _⟩ := qv_four hq
    obtain ⟨a', b', g', d', rfl, ha', _, _, _⟩ := qv_four hp1
    have e2 := quad_pieces hq
    simp only [List.map_cons, List.map_nil] at e e2
    rw [hp2, pieces_other (by decide) e2] at e
    injection e with e _
    obtain ⟨u, rfl⟩ := Int.eq_ofNat_of_zero_le ha.1
    obtain ⟨v, rfl⟩ := Int.eq_ofNat_of_zero_le ha'.1
    rw [itoa_nat, itoa_nat] at e
    have h1 := decFrom_digits v
    rw [← e] at h1
    have h2 := decFrom_digits u
    have h3 : Lib.decFrom 0 (48 :: Lib.decDigits u) = Lib.decFrom 0 (Lib.decDigits u) := rfl
    rw [h3, h2] at h1
    injection h1 with h1
    rw [h1] at e
    have := congrArg List.length e
    simp at this
  · exact hp
theorem quadF_length {l : List UInt8} {q : List Int} {b : Bool} (h : quadF l = (q, b)) : q.length ≤ 1000000 := by
  cases b with
  | true => rw [(qv_true.1 (quadF_true h).1).1]; omega
  | false => rw [(quadF_false h).1]; simp
end Go.Proofs.YthgfldabeaepaaaDoor
