/- slices.Equal and slices.Clone at rows of ints, whatever their lengths. No condition. -/
import Derived.Test.YtjlgkepbflcefaaDoorShelf
import Derived.Test.YtjlgkepbflcefaaDoorHelp
namespace Go.Proofs.YtjlgkepbflcefaaDoor
open Go.RowKit

/-- A slice that is nil, or points to a row's cell. -/
def Flat (A : Option Addr) (n : Nat) : Prop := (A = none ∧ n = 0) ∨ ∃ b off, A = some ⟨b, off, none⟩
theorem own_flat {w : World} {base : Nat} {e : TypeId} {A : Option Addr} {n c : Nat} {xs : List Value} (h : w.ownsRow base e 1 (.slice A n c) n xs) : Flat A n := by
  obtain ⟨_, ⟨h1, h2⟩ | ⟨g, cap, cur, h1, _⟩⟩ := h
  · injection h1 with h3
    exact .inl ⟨h3, h2⟩
  · injection h1 with h3
    exact .inr ⟨g, 0, h3⟩
theorem Rd.flat {w : World} {A : Option Addr} {n : Nat} {vs : List Value} (h : Rd w A n vs) (hn : 0 < n) : Flat A n := by
  obtain ⟨b, off, hA, _⟩ := h.2.2 hn
  exact .inr ⟨b, off, hA⟩
theorem Flat.less {A : Option Addr} {n m : Nat} (h : Flat A n) (hm : m ≤ n) : Flat A m := by
  rcases h with ⟨h1, h2⟩ | h
  · exact .inl ⟨h1, by omega⟩
  · exact .inr h
theorem rd_getD {w : World} {b off : Nat} {n : Nat} {zs : List Int} (h : Rd w (some ⟨b, off, none⟩) n (ints zs)) : ∀ j, j < zs.length → w.cell? ⟨b, off + j, none⟩ = some (.int .i64 (zs.getD j 0)) := by
  intro j hj
  have hl := h.ilen
  obtain ⟨b', off', hA, hc⟩ := h.cells (by omega)
  injection hA with hA
  injection hA with h1 h2
  subst h1 h2
  refine hc j _ ?_
  simp [List.getD, List.getElem?_eq_getElem hj]
theorem own_nilrow (w : World) (base : Nat) (e : TypeId) : w.ownsRow base e 1 (.slice none 0 0) 0 [] := World.ownsRow_nil _ _ _ _

theorem equal_int (A B : Option Addr) (n m c d : Nat) (xs ys : List Int) (w : World) (hx : Rd w A n (ints xs)) (hy : Rd w B m (ints ys)) :
    Calls Tryd.prog 70 #[.slice A n c, .slice B m d] w fun e w' => e = .returned (.bool (decide (xs = ys))) ∧ ∃ q, w' = w.drewN q := by
  have hn := hx.max
  have hm := hy.max
  have hl1 := hx.ilen
  have hl2 := hy.ilen
  by_cases hnm : n = m
  · subst hnm
    by_cases h0 : n = 0
    · subst h0
      have e1 : xs = [] := List.eq_nil_of_length_eq_zero hl1
      have e2 : ys = [] := List.eq_nil_of_length_eq_zero hl2
      subst e1 e2
      exact (Tryd.slices_Equal_int_empty A B c 0 d w (by omega)).mono fun e w' ⟨he, hw⟩ => ⟨he, 0, hw⟩
    · obtain ⟨b1, o1, rfl, _⟩ := hx.cells (by omega)
      obtain ⟨b2, o2, rfl, _⟩ := hy.cells (by omega)
      refine (Tryd.slices_Equal_int b1 o1 n c b2 o2 n d xs ys w (by omega) (by omega) hn hm (rd_getD hx) (rd_getD hy)).mono fun e w' ⟨he, hw⟩ => ⟨?_, hw⟩
      rw [he, List.take_of_length_le (by omega), List.take_of_length_le (by omega)]
      congr 2
      rw [Bool.eq_iff_iff]
      simp
  · refine (Tryd.slices_Equal_int_lens A B n c m d w hnm).mono fun e w' ⟨he, hw⟩ => ⟨?_, 0, hw⟩
    rw [he, decide_eq_false]
    rintro rfl
    exact hnm (hl1.symm.trans hl2)
theorem clone_int (A : Option Addr) (n c : Nat) (zs : List Int) (w : World) (hx : Rd w A n (ints zs)) (hn : n ≤ 4000000) :
    Calls Tryd.prog 92 #[.slice A n c] w (RetI w zs) := by
  have hl := hx.ilen
  by_cases h0 : n = 0
  · subst h0
    have e1 : zs = [] := List.eq_nil_of_length_eq_zero hl
    subst e1
    cases A with
    | none => exact (Tryd.slices_Clone_int_nil 0 c w).mono fun e w' ⟨he, hw⟩ => ⟨none, 0, 0, he, own_nilrow _ _ _, by rw [hw]; exact Below.refl _ _⟩
    | some a =>
      refine (Tryd.slices_Clone_int_zero a c w).mono ?_
      rintro e w' ⟨v', he, ho, _, hb⟩
      obtain ⟨A', c', rfl, _⟩ := own_form ho
      exact ⟨A', 0, c', he, ho, hb⟩
  · obtain ⟨b, off, rfl, _⟩ := hx.cells (by omega)
    refine (Tryd.slices_Clone_int b off n c zs w (by omega) (by omega) (rd_getD hx)).mono ?_
    rintro e w' ⟨v', he, ho, _, hb⟩
    rw [List.take_of_length_le (by omega)] at ho
    obtain ⟨A', c', rfl, _⟩ := own_form ho
    exact ⟨A', n, c', he, ho, hb⟩
end Go.Proofs.YtjlgkepbflcefaaDoor
