/- What PickFrom answers, in the program and in the reference. No condition. -/
import Derived.Test.YtfikfihcjddgnaaRead
namespace Go.Proofs.Ytfikfihcjddgnaa
open Go.RowKit

theorem pickF_cases {zs : List Int} {n : Nat} {x y : Int} {b : Bool} (hl : zs.length = n) (h : pickF zs = (x, y, b)) :
    (bv zs = true ∧ 2 ≤ n ∧ zs[0]? = some 5 ∧ zs[1]? = some x ∧ y = 2 ∧ b = true) ∨ ((bv zs = false ∨ n < 2 ∨ zs.getD 0 0 ≠ 5) ∧ x = 0 ∧ y = 0 ∧ b = false) := by
  subst hl
  unfold pickF at h
  by_cases hc : (bv zs && decide (2 ≤ zs.length) && (zs.getD 0 0 == 5)) = true
  · rw [if_pos hc] at h
    injection h with h1 h
    injection h with h2 h3
    simp only [Bool.and_eq_true, decide_eq_true_eq, beq_iff_eq] at hc
    obtain ⟨⟨hb, h2l⟩, h5⟩ := hc
    refine .inl ⟨hb, h2l, ?_, ?_, h2.symm, h3.symm⟩
    · rw [← h5, List.getElem?_eq_getElem (by omega)]
      simp [List.getD, List.getElem?_eq_getElem (show 0 < zs.length by omega)]
    · rw [← h1, List.getElem?_eq_getElem (by omega)]
      simp [List.getD, List.getElem?_eq_getElem (show 1 < zs.length by omega)]
  · rw [if_neg hc] at h
    injection h with h1 h
    injection h with h2 h3
    refine .inr ⟨?_, h1.symm, h2.symm, h3.symm⟩
    cases hb : bv zs with
    | false => exact .inl rfl
    | true =>
      refine .inr ?_
      rw [hb] at hc
      by_cases h2l : zs.length < 2
      · exact .inl h2l
      · refine .inr fun h5 => hc ?_
        rw [h5, decide_eq_true (by omega)]
        rfl
theorem pickFrom_spec (A : Option Addr) (n c : Nat) (zs : List Int) (w : World) (hx : Rd w A n (ints zs)) (x y : Int) (b : Bool) (h : pickF zs = (x, y, b)) :
    Calls Try.prog 9 #[.slice A n c] w fun e w' => e = .returned (.tuple #[.int .i64 x, .int .i64 y, .bool b]) ∧ w = w' := by
  have hm := hx.max
  have hcs := pickF_cases hx.ilen h
  obtain ⟨p, hp⟩ : ∃ p, bv zs = p := ⟨_, rfl⟩
  rw [hp] at hcs
  clear h
  replace hp := Lib.hid hp
  cases p with
  | false =>
    obtain ⟨rfl, rfl, rfl⟩ : x = 0 ∧ y = 0 ∧ b = false := by rcases hcs with ⟨h, _⟩ | ⟨_, h⟩ <;> first | exact h | cases h
    clear hcs
    go_enter Try.func9, Try.ntmps9
    go_wp2_with (go_at_call 17; refine (bytesValid_spec _ _ _ _ _ hx _ hp.out).mono ?_; rintro e w' ⟨rfl, rfl⟩)
    go_ret3
    exact ⟨rfl, rfl⟩
  | true =>
    by_cases h2 : n < 2
    · obtain ⟨rfl, rfl, rfl⟩ : x = 0 ∧ y = 0 ∧ b = false := by rcases hcs with ⟨_, h, _⟩ | ⟨_, h⟩ <;> first | exact h | omega
      clear hcs
      go_enter Try.func9, Try.ntmps9
      go_wp2_with (go_at_call 17; refine (bytesValid_spec _ _ _ _ _ hx _ hp.out).mono ?_; rintro e w' ⟨rfl, rfl⟩)
      go_ret3
      exact ⟨rfl, rfl⟩
    · obtain ⟨b1, o1, rfl, hcell⟩ := hx.cells (by omega)
      have hl := hx.ilen
      obtain ⟨z0, hz0⟩ : ∃ z, zs[0]? = some z := ⟨zs[0]'(by omega), List.getElem?_eq_getElem _⟩
      obtain ⟨z1, hz1⟩ : ∃ z, zs[1]? = some z := ⟨zs[1]'(by omega), List.getElem?_eq_getElem _⟩
      have hc0 : w.cell? ⟨b1, o1, none⟩ = some (.int .i64 z0) := hcell 0 _ hz0
      have hc1 : w.cell? ⟨b1, o1 + 1, none⟩ = some (.int .i64 z1) := hcell 1 _ hz1
      have hg0 : zs.getD 0 0 = z0 := getD_of_at hz0
      have hn2 : (2 : Int) ≤ n := by omega
      by_cases h5 : z0 = 5
      · obtain ⟨rfl, rfl, rfl⟩ : z1 = x ∧ y = 2 ∧ b = true := by
          rcases hcs with ⟨_, _, _, h1, h2, h3⟩ | ⟨h, _⟩
          · rw [hz1] at h1
            injection h1 with h1
            exact ⟨h1, h2, h3⟩
          · rcases h with h | h | h
            · cases h
            · omega
            · exact absurd (hg0.trans h5) h
        subst h5
        clear hcs hcell hl hz0 hz1 hg0
        go_enter Try.func9, Try.ntmps9
        go_wp2_with (first | (go_quiet (fail)) | (go_at_call 17; refine (bytesValid_spec _ _ _ _ _ hx _ hp.out).mono ?_; rintro e w' ⟨rfl, rfl⟩))
        go_ret3
        exact ⟨rfl, rfl⟩
      · obtain ⟨rfl, rfl, rfl⟩ : x = 0 ∧ y = 0 ∧ b = false := by
          rcases hcs with ⟨_, _, h1, _⟩ | ⟨_, h⟩
          · rw [hz0] at h1
            injection h1 with h1
            exact absurd h1 h5
          · exact h
        have hne : (z0 != 5) = true := by simpa using h5
        clear hcs hcell hl hz0 hz1 hg0 h5
        go_enter Try.func9, Try.ntmps9
        go_wp2_with (first | (go_quiet (fail)) | (go_at_call 17; refine (bytesValid_spec _ _ _ _ _ hx _ hp.out).mono ?_; rintro e w' ⟨rfl, rfl⟩))
        go_ret3
        exact ⟨rfl, rfl⟩
set_option maxHeartbeats 1000000 in
theorem pickFrom_impl (A : Option Addr) (n c : Nat) (zs : List Int) (w : World) (hx : Rd w A n (ints zs)) (hfl : Flat A n) (hc : n ≤ c) (hn : n ≤ 4000000) (x y : Int) (b : Bool) (h : pickF zs = (x, y, b)) :
    Calls Try.prog 11 #[.slice A n c] w fun e w' => e = .returned (.tuple #[.int .i64 x, .int .i64 y, .bool b]) ∧ Below w.heap.size w w' := by
  have hl := hx.ilen
  have hcs := pickF_cases hl h
  obtain ⟨v, hv⟩ : ∃ v, bv zs = v := ⟨_, rfl⟩
  obtain ⟨ys, p1, f1, hT⟩ : ∃ ys p1 f1, rT zs 0 (!v) 1 = (ys, p1, f1) := ⟨_, _, _, rfl⟩
  obtain ⟨q, p2, f2, hB⟩ : ∃ q p2 f2, rB zs p1 (f1 || !decide (ys = [5])) = (q, p2, f2) := ⟨_, _, _, rfl⟩
  have key : (f2 = false ∧ q = x ∧ y = 2 ∧ b = true) ∨ (f2 = true ∧ x = 0 ∧ y = 0 ∧ b = false) := by
    have hB' := rB_take hB
    rw [hv] at hcs
    rcases rT_cases hT with ⟨hv1, hp1, rfl, rfl, rfl⟩ | ⟨hbad, rfl, rfl, rfl⟩
    · have hz0 : zs[0]? = some (zs[0]'(by omega)) := List.getElem?_eq_getElem _
      have e1 : (zs.drop 0).take 1 = [zs[0]'(by omega)] := by
        rw [List.drop_zero, List.take_add_one, hz0]
        rfl
      rw [e1] at hB'
      by_cases h5 : zs[0]'(by omega) = 5
      · rw [h5, decide_eq_true rfl] at hB'
        rcases rT_cases hB' with ⟨_, hp2, h6, _, rfl⟩ | ⟨hb2, _, _, rfl⟩
        · refine .inl ⟨rfl, ?_⟩
          have hz1 : zs[1]? = some q := by
            have : (zs.drop 1).take 1 = [zs[1]'(by omega)] := by
              rw [List.drop_eq_getElem_cons (by omega)]
              rfl
            rw [show 0 + 1 = 1 from rfl, this] at h6
            injection h6 with h6
            rw [h6]
            exact List.getElem?_eq_getElem _
          rcases hcs with ⟨_, _, _, h1, h2, h3⟩ | ⟨h, _⟩
          · rw [hz1] at h1
            injection h1 with h1
            exact ⟨h1, h2, h3⟩
          · exfalso
            rcases h with h | h | h
            · rw [h] at hv1
              cases hv1
            · omega
            · exact h (by rw [getD_of_at hz0, h5])
        · refine .inr ⟨rfl, ?_⟩
          rcases hcs with ⟨_, h, _⟩ | ⟨_, h⟩
          · rcases hb2 with e | e
            · cases e
            · omega
          · exact h
      · refine .inr ⟨?_, ?_⟩
        · rw [decide_eq_false (by simpa using h5)] at hB'
          exact (rT_bad (f' := f2) hB').2.2
        · rcases hcs with ⟨_, _, h, _⟩ | ⟨_, h⟩
          · rw [hz0] at h
            injection h with h
            exact absurd h h5
          · exact h
    · refine .inr ⟨(rT_bad hB').2.2, ?_⟩
      rcases hcs with ⟨h1, h2, _⟩ | ⟨_, h⟩
      · rw [h1] at hbad
        rcases hbad with e | e
        · cases e
        · omega
      · exact h
  clear hcs h hl
  replace hv := Lib.hid hv
  replace hT := Lib.hid hT
  replace hB := Lib.hid hB
  go_enter Try.func11, Try.ntmps11
  go_wp2_with fail
  refine (newReader_any _ _ _ _ _ hx hfl hc hn _ hv.out).mono ?_
  rintro e w1 ⟨g, rfl, hg, hR1, hB1⟩
  have hne1 := hR1.lt
  go_wp2_with fail
  refine (expect_any g zs 0 _ _ 1 1 [5] _ (hR1.alloc _) (rd_lit w1 3 #[.int .i64 5] 1 (by omega) rfl) (.inr (by simp; omega)) (by omega) _ _ _ hT.out).mono ?_
  rintro e w2 ⟨rfl, hR2, hG2⟩
  have hB2 := bgrow (bstep hB1 ((Below.refl _ _).alloc (Nat.le_refl _) (.cells #[.int .i64 5] 3))) hG2 fun k hk => by injection hk with hk; omega
  clear hR1 hB1 hG2 hx
  go_wp2_with fail
  refine (byte_any g zs p1 _ _ hR2 _ _ _ hB.out).mono ?_
  rintro e w3 ⟨rfl, hR3, hG3⟩
  have hB3 := bgrow hB2 hG3 fun k hk => by injection hk with hk; omega
  obtain ⟨_, _, _, _, _, hc2, _⟩ := hR3.cells
  clear hR2 hB2 hG3
  rcases key with ⟨rfl, rfl, rfl, rfl⟩ | ⟨rfl, rfl, rfl, rfl⟩
  · go_wp2_with fail
    go_ret3
    exact ⟨rfl, hB3⟩
  · go_wp2_with fail
    go_ret3
    exact ⟨rfl, hB3⟩
end Go.Proofs.Ytfikfihcjddgnaa
