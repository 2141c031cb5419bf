/- What a reader of bytes reads; no program in sight. No condition. -/
import Derived.Test.YtjlgkepbflcefaaDoorPlain
namespace Go.Proofs.YtjlgkepbflcefaaDoor

/-- So many bytes at p: these, the next place, whether it has failed. -/
def rT (zs : List Int) (p : Nat) (f : Bool) (k : Nat) : List Int × Nat × Bool := if f = false ∧ p + k ≤ zs.length then ((zs.drop p).take k, p + k, false) else (List.replicate k 0, p, true)
theorem rT_cases {zs : List Int} {p k : Nat} {f : Bool} {ys : List Int} {p' : Nat} {f' : Bool} (h : rT zs p f k = (ys, p', f')) :
    (f = false ∧ p + k ≤ zs.length ∧ ys = (zs.drop p).take k ∧ p' = p + k ∧ f' = false) ∨ ((f = true ∨ zs.length < p + k) ∧ ys = List.replicate k 0 ∧ p' = p ∧ f' = true) := by
  unfold rT at h
  by_cases hc : f = false ∧ p + k ≤ zs.length
  · rw [if_pos hc] at h
    injection h with h1 h
    injection h with h2 h3
    exact .inl ⟨hc.1, hc.2, h1.symm, h2.symm, h3.symm⟩
  · rw [if_neg hc] at h
    injection h with h1 h
    injection h with h2 h3
    refine .inr ⟨?_, h1.symm, h2.symm, h3.symm⟩
    cases f with
    | true => exact .inl rfl
    | false => exact .inr (by simpa using hc)
theorem rT_length {zs : List Int} {p k : Nat} {f : Bool} {ys : List Int} {p' : Nat} {f' : Bool} (h : rT zs p f k = (ys, p', f')) : ys.length = k := by
  rcases rT_cases h with ⟨_, h2, rfl, _⟩ | ⟨_, rfl, _⟩
  · simp
    omega
  · simp
theorem rT_le {zs : List Int} {p k : Nat} {f : Bool} {ys : List Int} {p' : Nat} {f' : Bool} (h : rT zs p f k = (ys, p', f')) (hp : p ≤ zs.length) : p' ≤ zs.length := by
  rcases rT_cases h with ⟨_, h2, _, rfl, _⟩ | ⟨_, _, rfl, _⟩
  · exact h2
  · exact hp
theorem rT_bytes {zs : List Int} {p k : Nat} {f : Bool} {ys : List Int} {p' : Nat} {f' : Bool} (h : rT zs p f k = (ys, p', f')) (hb : f = false → bv zs = true) : ∀ x ∈ ys, 0 ≤ x ∧ x ≤ 255 := by
  rcases rT_cases h with ⟨h1, _, rfl, _⟩ | ⟨_, rfl, _⟩
  · intro x hx
    exact (bv_true.1 (hb h1)).2 x (List.mem_of_mem_drop (List.mem_of_mem_take hx))
  · intro x hx
    have := List.eq_of_mem_replicate hx
    omega
theorem rT_still {zs : List Int} {p k : Nat} {f : Bool} {ys : List Int} {p' : Nat} {f' : Bool} (h : rT zs p f k = (ys, p', f')) (hb : f = false → bv zs = true) : f' = false → bv zs = true := by
  rcases rT_cases h with ⟨h1, _⟩ | ⟨_, _, _, rfl⟩
  · exact fun _ => hb h1
  · intro e
    cases e
theorem rT_bad {zs : List Int} {p k : Nat} {ys : List Int} {p' : Nat} {f' : Bool} (h : rT zs p true k = (ys, p', f')) : ys = List.replicate k 0 ∧ p' = p ∧ f' = true := by
  rcases rT_cases h with ⟨h1, _⟩ | ⟨_, h2, h3, h4⟩
  · cases h1
  · exact ⟨h2, h3, h4⟩
theorem rT_ok {zs : List Int} {p k : Nat} (h : p + k ≤ zs.length) : rT zs p false k = ((zs.drop p).take k, p + k, false) := by
  unfold rT
  rw [if_pos ⟨rfl, h⟩]
theorem rT_short {zs : List Int} {p k : Nat} (h : zs.length < p + k) : rT zs p false k = (List.replicate k 0, p, true) := by
  unfold rT
  rw [if_neg]
  omega
theorem one_of_length {ys : List Int} (h : ys.length = 1) : ∃ y, ys = [y] := by
  match ys, h with
  | [y], _ => exact ⟨y, rfl⟩
/-- A byte at p. -/
def rB (zs : List Int) (p : Nat) (f : Bool) : Int × Nat × Bool := ((rT zs p f 1).1.headD 0, (rT zs p f 1).2)
theorem rB_take {zs : List Int} {p : Nat} {f : Bool} {y : Int} {p' : Nat} {f' : Bool} (h : rB zs p f = (y, p', f')) : rT zs p f 1 = ([y], p', f') := by
  obtain ⟨ys, p2, f2, e⟩ : ∃ ys p2 f2, rT zs p f 1 = (ys, p2, f2) := ⟨_, _, _, rfl⟩
  unfold rB at h
  rw [e] at h
  obtain ⟨z, rfl⟩ := one_of_length (rT_length e)
  injection h with h1 h2
  rw [e, ← h1, ← h2]
  rfl
theorem rB_ok {zs : List Int} {p : Nat} {x : Int} (h : zs[p]? = some x) : rB zs p false = (x, p + 1, false) := by
  obtain ⟨hp, e⟩ := List.getElem?_eq_some_iff.1 h
  unfold rB
  rw [rT_ok (by omega), List.drop_eq_getElem_cons hp, e]
  rfl
theorem rB_end {zs : List Int} {p : Nat} (h : zs.length ≤ p) : rB zs p false = (0, p, true) := by
  unfold rB
  rw [rT_short (by omega)]
  rfl
theorem rB_bad (zs : List Int) (p : Nat) : rB zs p true = (0, p, true) := rfl
/-- What a server says of a method. -/
def pickF (zs : List Int) : Int × Int × Bool := if bv zs && decide (2 ≤ zs.length) && (zs.getD 0 0 == 5) then (zs.getD 1 0, 2, true) else (0, 0, false)
end Go.Proofs.YtjlgkepbflcefaaDoor
