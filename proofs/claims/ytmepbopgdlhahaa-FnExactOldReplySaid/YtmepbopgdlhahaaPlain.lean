/- Plain lists, numbers and letters; no program in sight. No condition. -/
import Derived.WalkKit
namespace Go.Proofs.Ytmepbopgdlhahaa

/-- Is x in lo .. hi? -/
def inR (x lo hi : Int) : Bool := decide (lo ≤ x) && decide (x ≤ hi)
theorem inR_true {x lo hi : Int} : inR x lo hi = true ↔ lo ≤ x ∧ x ≤ hi := by simp [inR]
theorem inR_false {x lo hi : Int} : inR x lo hi = false ↔ ¬ (lo ≤ x ∧ x ≤ hi) := by rw [← Bool.not_eq_true, inR_true]

theorem take_eq_succ {xs ys : List Int} {k : Nat} {x : Int} (h : xs.take k = ys.take k) (hx : xs[k]? = some x) (hy : ys[k]? = some x) : xs.take (k + 1) = ys.take (k + 1) := by
  rw [List.take_add_one, List.take_add_one, h, hx, hy]
theorem ne_of_at {xs ys : List Int} {k : Nat} {x y : Int} (hx : xs[k]? = some x) (hy : ys[k]? = some y) (h : x ≠ y) : xs ≠ ys := by
  rintro rfl
  rw [hx] at hy
  exact h (by simpa using hy)

/-- k, k + 1, .. : n numbers. -/
def marks (k : Int) (n : Nat) : List Int := (List.range n).map fun (i : Nat) => k + (i : Int)
theorem marks_length (k : Int) (n : Nat) : (marks k n).length = n := by simp [marks]
theorem marks_at {k : Int} {n i : Nat} (h : i < n) : (marks k n)[i]? = some (k + (i : Int)) := by simp [marks, List.getElem?_range h]
theorem marks_succ (k : Int) (n : Nat) : marks k (n + 1) = marks k n ++ [k + (n : Int)] := by simp [marks, List.range_succ]

/-- The list zs with its first j numbers struck over by k, k + 1, .. -/
def struck (zs : List Int) (k : Int) (j : Nat) : List Int := marks k j ++ zs.drop j
theorem struck_zero (zs : List Int) (k : Int) : struck zs k 0 = zs := by simp [struck, marks]
theorem struck_all {zs : List Int} {k : Int} {n : Nat} (h : zs.length = n) : struck zs k n = marks k n := by simp [struck, List.drop_eq_nil_of_le (Nat.le_of_eq h)]
theorem struck_succ {zs : List Int} {k : Int} {j : Nat} (h : j < zs.length) : (struck zs k j).set j (k + (j : Int)) = struck zs k (j + 1) := by
  unfold struck
  rw [marks_succ, List.set_append_right _ _ (by rw [marks_length]; omega), marks_length, Nat.sub_self, List.drop_eq_getElem_cons h]
  simp only [List.set_cons_zero, List.append_assoc, List.cons_append, List.nil_append]

/-- The first k of zs, the rest (up to n) still d. -/
def fill (zs : List Int) (d : Int) (n k : Nat) : List Int := zs.take k ++ List.replicate (n - k) d
theorem fill_zero (zs : List Int) (d : Int) (n : Nat) : fill zs d n 0 = List.replicate n d := by simp [fill]
theorem fill_all {zs : List Int} {d : Int} {n : Nat} (h : zs.length = n) : fill zs d n n = zs := by simp [fill, List.take_of_length_le (Nat.le_of_eq h)]
theorem fill_length {zs : List Int} {d : Int} {n k : Nat} (h : zs.length = n) (hk : k ≤ n) : (fill zs d n k).length = n := by simp [fill]; omega
theorem fill_set {zs : List Int} {d : Int} {n k : Nat} {z : Int} (h : zs.length = n) (hk : k < n) (hz : zs[k]? = some z) : (fill zs d n k).set k z = fill zs d n (k + 1) := by
  unfold fill
  have e : (zs.take k).length = k := by simp; omega
  have hr : List.replicate (n - k) d = d :: List.replicate (n - (k + 1)) d := by rw [← List.replicate_succ]; congr 1; omega
  rw [List.set_append_right _ _ (by omega), e, Nat.sub_self, hr, List.set_cons_zero, List.take_add_one, hz]
  simp

/-- Are the numbers bytes, and not too many? -/
def bv (zs : List Int) : Bool := decide (zs.length ≤ 120) && zs.all fun x => inR x 0 255
theorem bv_true {zs : List Int} : bv zs = true ↔ zs.length ≤ 120 ∧ ∀ x ∈ zs, 0 ≤ x ∧ x ≤ 255 := by
  simp [bv, inR_true, List.all_eq_true]

/-- A number as so many bytes, the highest first. -/
def nb (n : Int) : Nat → List Int
  | 0 => []
  | k + 1 => nb (n / 256) k ++ [n % 256]
theorem nb_length (n : Int) (k : Nat) : (nb n k).length = k := by
  induction k generalizing n with
  | zero => rfl
  | succ k ih => simp [nb, ih]

/-- The bytes of a text, as numbers. -/
def sInts (s : ByteArray) : List Int := s.data.toList.map fun c => (c.toNat : Int)
theorem sInts_length (s : ByteArray) : (sInts s).length = s.size := by simp [sInts]
theorem sInts_at {s : ByteArray} {k : Nat} (h : k < s.size) : (sInts s)[k]? = some ((s[k]'h).toNat : Int) := by
  have h' : k < s.data.toList.length := by simpa using h
  simp only [sInts, List.getElem?_map, List.getElem?_eq_getElem h', Option.map_some]
  rfl

end Go.Proofs.Ytmepbopgdlhahaa
