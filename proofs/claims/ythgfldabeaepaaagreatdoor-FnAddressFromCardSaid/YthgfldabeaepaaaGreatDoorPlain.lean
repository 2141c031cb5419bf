/- Plain lists, numbers and letters; no program in sight. No condition. -/
import Derived.WalkKit
import Derived.Laws.BytesArg
namespace Go.Proofs.YthgfldabeaepaaaGreatDoor

/-- Is x in lo .. hi? -/
def inR (x lo hi : Int) : Bool := decide (lo ≤ x) && decide (x ≤ hi)
theorem inR_true {x lo hi : Int} : inR x lo hi = true ↔ lo ≤ x ∧ x ≤ hi := by simp [inR]
theorem inR_false {x lo hi : Int} : inR x lo hi = false ↔ ¬ (lo ≤ x ∧ x ≤ hi) := by rw [← Bool.not_eq_true, inR_true]

theorem take_eq_succ {xs ys : List Int} {k : Nat} {x : Int} (h : xs.take k = ys.take k) (hx : xs[k]? = some x) (hy : ys[k]? = some x) : xs.take (k + 1) = ys.take (k + 1) := by
  rw [List.take_add_one, List.take_add_one, h, hx, hy]
theorem ne_of_at {xs ys : List Int} {k : Nat} {x y : Int} (hx : xs[k]? = some x) (hy : ys[k]? = some y) (h : x ≠ y) : xs ≠ ys := by
  rintro rfl
  rw [hx] at hy
  exact h (by simpa using hy)

/-- k, k + 1, .. : n numbers. -/
def marks (k : Int) (n : Nat) : List Int := (List.range n).map fun (i : Nat) => k + (i : Int)
theorem marks_length (k : Int) (n : Nat) : (marks k n).length = n := by simp [marks]
theorem marks_at {k : Int} {n i : Nat} (h : i < n) : (marks k n)[i]? = some (k + (i : Int)) := by simp [marks, List.getElem?_range h]
theorem marks_succ (k : Int) (n : Nat) : marks k (n + 1) = marks k n ++ [k + (n : Int)] := by simp [marks, List.range_succ]

/-- The list zs with its first j numbers struck over by k, k + 1, .. -/
def struck (zs : List Int) (k : Int) (j : Nat) : List Int := marks k j ++ zs.drop j
theorem struck_zero (zs : List Int) (k : Int) : struck zs k 0 = zs := by simp [struck, marks]
theorem struck_all {zs : List Int} {k : Int} {n : Nat} (h : zs.length = n) : struck zs k n = marks k n := by simp [struck, List.drop_eq_nil_of_le (Nat.le_of_eq h)]
theorem struck_succ {zs : List Int} {k : Int} {j : Nat} (h : j < zs.length) : (struck zs k j).set j (k + (j : Int)) = struck zs k (j + 1) := by
  unfold struck
  rw [marks_succ, List.set_append_right _ _ (by rw [marks_length]; omega), marks_length, Nat.sub_self, List.drop_eq_getElem_cons h]
  simp only [List.set_cons_zero, List.append_assoc, List.cons_append, List.nil_append]

/-- The first k of zs, the rest (up to n) still d. -/
def fill (zs : List Int) (d : Int) (n k : Nat) : List Int := zs.take k ++ List.replicate (n - k) d
theorem fill_zero (zs : List Int) (d : Int) (n : Nat) : fill zs d n 0 = List.replicate n d := by simp [fill]
theorem fill_all {zs : List Int} {d : Int} {n : Nat} (h : zs.length = n) : fill zs d n n = zs := by simp [fill, List.take_of_length_le (Nat.le_of_eq h)]
theorem fill_length {zs : List Int} {d : Int} {n k : Nat} (h : zs.length = n) (hk : k ≤ n) : (fill zs d n k).length = n := by simp [fill]; omega
theorem fill_set {zs : List Int} {d : Int} {n k : Nat} {z : Int} (h : zs.length = n) (hk : k < n) (hz : zs[k]? = some z) : (fill zs d n k).set k z = fill zs d n (k + 1) := by
  unfold fill
  have e : (zs.take k).length = k := by simp; omega
  have hr : List.replicate (n - k) d = d :: List.replicate (n - (k + 1)) d := by rw [← List.replicate_succ]; congr 1; omega
  rw [List.set_append_right _ _ (by omega), e, Nat.sub_self, hr, List.set_cons_zero, List.take_add_one, hz]
  simp

/-- Are the numbers bytes, and not too many? -/
def bv (zs : List Int) : Bool := decide (zs.length ≤ 120) && zs.all fun x => inR x 0 255
theorem bv_true {zs : List Int} : bv zs = true ↔ zs.length ≤ 120 ∧ ∀ x ∈ zs, 0 ≤ x ∧ x ≤ 255 := by
  simp [bv, inR_true, List.all_eq_true]

/-- A number as so many bytes, the highest first. -/
def nb (n : Int) : Nat → List Int
  | 0 => []
  | k + 1 => nb (n / 256) k ++ [n % 256]
theorem nb_length (n : Int) (k : Nat) : (nb n k).length = k := by
  induction k generalizing n with
  | zero => rfl
  | succ k ih => simp [nb, ih]

/-- 256 to the power of a width. -/
def pow256 (width : Int) : Int := if width = 1 then 256 else if width = 2 then 65536 else if width = 3 then 16777216 else 4294967296
/-- Does n fit into so many bytes? -/
def fits (n width : Int) : Bool := inR width 1 4 && decide (0 ≤ n) && decide (n < pow256 width)
/-- A number as so many bytes, or nothing. -/
def numB (n width : Int) : List Int × Bool := if fits n width then (nb n width.toNat, true) else ([], false)

/-- The bytes of a text, as numbers. -/
def sInts (s : ByteArray) : List Int := s.data.toList.map fun c => (c.toNat : Int)
theorem sInts_length (s : ByteArray) : (sInts s).length = s.size := by simp [sInts]
theorem sInts_at {s : ByteArray} {k : Nat} (h : k < s.size) : (sInts s)[k]? = some ((s[k]'h).toNat : Int) := by
  have h' : k < s.data.toList.length := by simpa using h
  simp only [sInts, List.getElem?_map, List.getElem?_eq_getElem h', Option.map_some]
  rfl

theorem sInts_bytes (s : ByteArray) : ∀ x ∈ sInts s, 0 ≤ x ∧ x ≤ 255 := by
  intro x hx
  obtain ⟨c, _, rfl⟩ := List.mem_map.1 hx
  have := c.toNat_lt
  omega
theorem sInts_strOfNums {zs : List Int} (h : ∀ x ∈ zs, 0 ≤ x ∧ x ≤ 255) : sInts (strOfNums zs) = zs := by
  unfold sInts
  rw [strOfNums_data, List.map_map]
  refine (List.map_congr_left fun x hx => ?_).trans (List.map_id zs)
  have := h x hx
  simp only [Function.comp, UInt8.toNat_ofNat', id]
  omega
theorem strOfNums_sInts (s : ByteArray) : strOfNums (sInts s) = s := by
  have : (strOfNums (sInts s)).data.toList = s.data.toList := by
    rw [strOfNums_data, sInts, List.map_map]
    refine (List.map_congr_left fun c _ => ?_).trans (List.map_id _)
    simp
  obtain ⟨d⟩ := s
  have h2 : (strOfNums (sInts ⟨d⟩)).data = d := Array.toList_inj.1 this
  exact congrArg ByteArray.mk h2

/-! ### Numbers -/
/-- The number of bytes. -/
def numOf (zs : List Int) : Int := zs.foldl (fun n x => n * 256 + x) 0
theorem numOf_snoc (zs : List Int) (x : Int) : numOf (zs ++ [x]) = numOf zs * 256 + x := by simp [numOf]
theorem numOf_bound : ∀ (k : Nat) (zs : List Int), zs.length = k → (∀ x ∈ zs, 0 ≤ x ∧ x ≤ 255) → 0 ≤ numOf zs ∧ numOf zs < 256 ^ k
  | 0, zs, hl, _ => by
    have : zs = [] := List.eq_nil_of_length_eq_zero hl
    subst this
    decide
  | k + 1, zs, hl, h => by
    rcases List.eq_nil_or_concat zs with rfl | ⟨l, x, rfl⟩
    · simp at hl
    · have hk : l.length = k := by simpa using hl
      have hb := numOf_bound k l hk fun y hy => h y (by simp [hy])
      have hx := h x (by simp)
      rw [List.concat_eq_append, numOf_snoc, Int.pow_succ]
      omega
theorem nb_bytes : ∀ (k : Nat) (n : Int), ∀ x ∈ nb n k, 0 ≤ x ∧ x ≤ 255
  | 0, _, x, hx => by cases hx
  | k + 1, n, x, hx => by
    rcases List.mem_append.1 hx with h | h
    · exact nb_bytes k _ x h
    · have : x = n % 256 := by simpa using h
      omega
theorem numOf_nb : ∀ (k : Nat) (n : Int), 0 ≤ n → n < 256 ^ k → numOf (nb n k) = n
  | 0, n, h0, h => by
    have : n = 0 := by simp at h; omega
    subst this
    rfl
  | k + 1, n, h0, h => by
    rw [Int.pow_succ] at h
    rw [nb, numOf_snoc, numOf_nb k (n / 256) (by omega) (by omega)]
    omega
theorem nb_numOf : ∀ (k : Nat) (zs : List Int), zs.length = k → (∀ x ∈ zs, 0 ≤ x ∧ x ≤ 255) → nb (numOf zs) k = zs
  | 0, zs, hl, _ => by
    have : zs = [] := List.eq_nil_of_length_eq_zero hl
    subst this
    rfl
  | k + 1, zs, hl, h => by
    rcases List.eq_nil_or_concat zs with rfl | ⟨l, x, rfl⟩
    · simp at hl
    · have hk : l.length = k := by simpa using hl
      have hx := h x (by simp)
      have hb := numOf_bound k l hk fun y hy => h y (by simp [hy])
      have e1 : (numOf l * 256 + x) / 256 = numOf l := by omega
      have e2 : (numOf l * 256 + x) % 256 = x := by omega
      rw [List.concat_eq_append, numOf_snoc, nb, e1, e2, nb_numOf k l hk fun y hy => h y (by simp [hy])]
theorem nb_wide : ∀ (k : Nat) (n : Int), 0 ≤ n → n < 256 ^ k → nb n (k + 1) = 0 :: nb n k
  | 0, n, h0, h => by
    have : n = 0 := by simp at h; omega
    subst this
    rfl
  | k + 1, n, h0, h => by
    rw [Int.pow_succ] at h
    rw [nb, nb_wide k (n / 256) (by omega) (by omega)]
    rfl
theorem pow256_eq {width : Int} {k : Nat} (hk : 1 ≤ k ∧ k ≤ 4) (h : width = k) : pow256 width = 256 ^ k := by
  subst h
  obtain rfl | rfl | rfl | rfl : k = 1 ∨ k = 2 ∨ k = 3 ∨ k = 4 := by omega
  all_goals rfl
theorem fits_true {n width : Int} : fits n width = true ↔ (1 ≤ width ∧ width ≤ 4) ∧ 0 ≤ n ∧ n < pow256 width := by
  simp [fits, inR_true, and_assoc]
theorem fits_false {n width : Int} : fits n width = false ↔ ¬ ((1 ≤ width ∧ width ≤ 4) ∧ 0 ≤ n ∧ n < pow256 width) := by rw [← Bool.not_eq_true, fits_true]
theorem numB_cases {n width : Int} {zs : List Int} {b : Bool} (h : numB n width = (zs, b)) :
    (b = true ∧ zs = nb n width.toNat ∧ fits n width = true) ∨ (b = false ∧ zs = [] ∧ fits n width = false) := by
  unfold numB at h
  cases hf : fits n width with
  | true => rw [hf] at h; injection h with h1 h2; exact .inl ⟨h2.symm, h1.symm, rfl⟩
  | false => rw [hf] at h; injection h with h1 h2; exact .inr ⟨h2.symm, h1.symm, rfl⟩
theorem numB_length {n width : Int} {zs : List Int} {b : Bool} (h : numB n width = (zs, b)) : zs.length ≤ 4 := by
  rcases numB_cases h with ⟨_, rfl, hf⟩ | ⟨_, rfl, _⟩
  · rw [nb_length]
    have := (fits_true.1 hf).1
    omega
  · simp
/-- The number of one to four bytes, or nothing. -/
def numO (zs : List Int) : Int × Bool := if decide (1 ≤ zs.length) && decide (zs.length ≤ 4) && bv zs then (numOf zs, true) else (0, false)

/-! ### Texts -/
/-- The bytes of a text that is not too long. -/
def textB (s : ByteArray) : List Int × Bool := if s.size ≤ 120 then (sInts s, true) else ([], false)
theorem textB_length {s : ByteArray} {zs : List Int} {b : Bool} (h : textB s = (zs, b)) : zs.length ≤ 120 := by
  unfold textB at h
  by_cases hs : s.size ≤ 120
  · rw [if_pos hs] at h
    injection h with h1 _
    rw [← h1, sInts_length]
    exact hs
  · rw [if_neg hs] at h
    injection h with h1 _
    rw [← h1]
    simp
/-- The text of bytes. -/
def bytesT (zs : List Int) : ByteArray × Bool := if bv zs then (strOfNums zs, true) else (⟨#[]⟩, false)

/-! ### Tests over a whole list -/
theorem all_take_succ {p : Int → Bool} {zs : List Int} {k : Nat} {x : Int} (h : (zs.take k).all p = true) (hx : zs[k]? = some x) (hp : p x = true) : (zs.take (k + 1)).all p = true := by
  rw [List.take_add_one, hx, List.all_append, h]
  simpa using hp
theorem all_false_at {p : Int → Bool} {zs : List Int} {k : Nat} {x : Int} (hx : zs[k]? = some x) (hp : p x = false) : zs.all p = false := by
  rw [List.all_eq_false]
  exact ⟨x, List.mem_of_getElem? hx, by simp [hp]⟩
theorem all_of_take {p : Int → Bool} {zs : List Int} {n : Nat} (h : (zs.take n).all p = true) (hl : zs.length = n) : zs.all p = true := by
  rwa [List.take_of_length_le (Nat.le_of_eq hl)] at h

/-- Is x a byte? -/
def inB (x : Int) : Bool := inR x 0 255
theorem bv_eq {zs : List Int} {n : Nat} (hl : zs.length = n) : bv zs = (decide (n ≤ 120) && zs.all inB) := by subst hl; rfl

/-- Four bytes? -/
def qv (zs : List Int) : Bool := decide (zs.length = 4) && bv zs

/-! ### Letters -/
/-- A small letter or a digit. -/
def ldB (x : Int) : Bool := inR x 97 122 || inR x 48 57
/-- A small letter, a digit or '-'. -/
def letB (x : Int) : Bool := ldB x || x == 45
theorem let_cases (x : Int) : (97 ≤ x ∧ x ≤ 122) ∨ 122 < x ∨ (57 < x ∧ x < 97) ∨ (48 ≤ x ∧ x ≤ 57) ∨ x = 45 ∨ (x < 48 ∧ x ≠ 45) := by omega
theorem ldB_true {x : Int} : ldB x = true ↔ (97 ≤ x ∧ x ≤ 122) ∨ (48 ≤ x ∧ x ≤ 57) := by simp [ldB, inR_true]
theorem ldB_false {x : Int} : ldB x = false ↔ ¬ ((97 ≤ x ∧ x ≤ 122) ∨ (48 ≤ x ∧ x ≤ 57)) := by rw [← Bool.not_eq_true, ldB_true]
theorem letB_true {x : Int} : letB x = true ↔ (97 ≤ x ∧ x ≤ 122) ∨ (48 ≤ x ∧ x ≤ 57) ∨ x = 45 := by simp [letB, ldB_true, or_assoc]
theorem letB_false {x : Int} : letB x = false ↔ ¬ ((97 ≤ x ∧ x ≤ 122) ∨ (48 ≤ x ∧ x ≤ 57) ∨ x = 45) := by rw [← Bool.not_eq_true, letB_true]
/-- A valid user. -/
def userV (zs : List Int) : Bool := decide (zs.length ≤ 8) && zs.all ldB

/-! ### Methods -/
/-- The first k methods are in range, and no two of them are one. -/
def mUpTo (zs : List Int) (k : Nat) : Bool := (List.range k).all fun i => inR (zs.getD i 0) 0 254 && !(zs.take i).contains (zs.getD i 0)
/-- Valid methods. -/
def methV (zs : List Int) : Bool := mUpTo zs zs.length && decide (1 ≤ zs.length) && decide (zs.length ≤ 8)
theorem mUpTo_zero (zs : List Int) : mUpTo zs 0 = true := rfl
theorem getD_of_at {zs : List Int} {k : Nat} {x : Int} (h : zs[k]? = some x) : zs.getD k 0 = x := by simp [List.getD, h]
theorem mUpTo_succ {zs : List Int} {k : Nat} {x : Int} (h : mUpTo zs k = true) (hx : zs[k]? = some x) (h1 : inR x 0 254 = true) (h2 : (zs.take k).contains x = false) : mUpTo zs (k + 1) = true := by
  unfold mUpTo at h ⊢
  rw [List.range_succ, List.all_append, h]
  simp only [List.all_cons, List.all_nil, Bool.and_true, getD_of_at hx, h1, h2, Bool.not_false]
theorem mUpTo_bad {zs : List Int} {k n : Nat} {x : Int} (hk : k < n) (hx : zs[k]? = some x) (h : inR x 0 254 = false ∨ (zs.take k).contains x = true) : mUpTo zs n = false := by
  unfold mUpTo
  rw [List.all_eq_false]
  refine ⟨k, List.mem_range.2 hk, ?_⟩
  rw [getD_of_at hx]
  rcases h with h | h <;> simp only [h, Bool.false_and, Bool.not_true, Bool.and_false, Bool.false_eq_true, not_false_eq_true]
theorem methV_eq {zs : List Int} {n : Nat} (hl : zs.length = n) : methV zs = (mUpTo zs n && inR n 1 8) := by
  subst hl
  unfold methV inR
  rw [Bool.and_assoc]
  congr 1
  rw [Bool.eq_iff_iff]
  simp
  omega
theorem methV_length {zs : List Int} (h : methV zs = true) : 1 ≤ zs.length ∧ zs.length ≤ 8 := by
  unfold methV at h
  simp at h
  exact ⟨h.1.2, h.2⟩
/-- The hello with methods. -/
def helloB (zs : List Int) : List Int × Bool := if methV zs then ([5, (zs.length : Int)] ++ zs, true) else ([], false)
theorem helloB_length {ms zs : List Int} {b : Bool} (h : helloB ms = (zs, b)) : zs.length ≤ 10 := by
  unfold helloB at h
  cases hv : methV ms with
  | true =>
    rw [hv] at h
    injection h with h1 _
    have := methV_length hv
    rw [← h1]
    simp
    omega
  | false =>
    rw [hv] at h
    injection h with h1 _
    rw [← h1]
    simp
/-- The first wanted method that is among the others, or 255. -/
def pickM (ws ms : List Int) : Int := if methV ws && methV ms then (ws.find? fun x => ms.contains x).getD 255 else 255

end Go.Proofs.YthgfldabeaepaaaGreatDoor
