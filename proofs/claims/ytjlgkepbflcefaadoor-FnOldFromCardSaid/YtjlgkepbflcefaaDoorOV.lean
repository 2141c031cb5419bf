/- Is a request of the fourth version valid? No condition. -/
import Derived.Test.YtjlgkepbflcefaaDoorOd
import Derived.Test.YtjlgkepbflcefaaDoorUser
import Derived.Test.YtjlgkepbflcefaaDoorSlices
namespace Go.Proofs.YtjlgkepbflcefaaDoor
open Go.RowKit
theorem odV_parts {x : Od} {p q r : Bool} (hp : inR x.cmd 1 2 = p) (hq : adV x.to = q) (hr : userV (sInts x.user) = r) : odV x = (p && q && r && (decide (x.to.kind = 3) || !decide (x.to.quad.take 3 = [0, 0, 0]))) := by
  unfold odV
  rw [hp, hq, hr]
theorem rd_take3 {w : World} {A : Option Addr} {n : Nat} {zs : List Int} (h : Rd w A n (ints zs)) (hn : 3 ≤ n) : Rd w A 3 (ints (zs.take 3)) := by
  have := h.take (k := 3) hn
  rwa [ints, ← List.map_take] at this
set_option maxRecDepth 20000 in
set_option maxHeartbeats 2000000 in
theorem isOld_any (x : Od) (A : Option Addr) (n c : Nat) (w : World) (hM : EnvM w) (hx : Rd w A n (ints x.to.quad)) (hc : n ≤ c) (hs : x.to.name.size ≤ 4000000) (hu : x.user.size ≤ 4000000) (r : Bool) (hr : odV x = r) :
    Calls Tryd.prog 56 #[odVal x A n c] w fun e w' => e = .returned (.bool r) ∧ Below w.heap.size w w' := by
  obtain ⟨p1, h1⟩ : ∃ p, inR x.cmd 1 2 = p := ⟨_, rfl⟩
  obtain ⟨p2, h2⟩ : ∃ p, adV x.to = p := ⟨_, rfl⟩
  obtain ⟨p3, h3⟩ : ∃ p, userV (sInts x.user) = p := ⟨_, rfl⟩
  rw [odV_parts h1 h2 h3] at hr
  have hl := hx.ilen
  have k0 := heap_alloc_new w (.cells #[.int .i64 x.cmd, .int .i64 x.to.kind, .slice A n c, .string x.to.name, .int .i64 x.to.port, .string x.user] 39)
  have hB0 : Below w.heap.size w (w.alloc (.cells #[.int .i64 x.cmd, .int .i64 x.to.kind, .slice A n c, .string x.to.name, .int .i64 x.to.port, .string x.user] 39)) := by go_grown
  replace h1 := Lib.hid h1
  cases p1
  case false =>
    simp only [Bool.false_and] at hr
    subst hr
    clear k0 hM hx
    go_enter Tryd.func56, Tryd.ntmps56
    go_wp2_with (go_at_call 61; refine (within_any _ _ _ _ _ h1.out).mono ?_; rintro e w' ⟨rfl, rfl⟩)
    go_ret
    exact ⟨rfl, hB0⟩
  go_enter Tryd.func56, Tryd.ntmps56
  go_wp2_with fail
  refine (within_any _ _ _ _ _ h1.out).mono ?_
  rintro e w1 ⟨rfl, rfl⟩
  have hkind : p2 = true → (x.to.kind = 1 ∧ n = 4) ∨ x.to.kind = 3 := by
    intro e
    rw [e] at h2
    rcases (adV_true.1 h2).2 with h | h
    · exact .inl ⟨h.1, by have := (qv_true.1 h.2.1).1; omega⟩
    · exact .inr h.1
  replace hkind := Lib.hid hkind
  replace h2 := Lib.hid h2
  replace h3 := Lib.hid h3
  go_wp2_with fail
  refine (addressValid_impl x.to A n c _ (hM.step hB0) (hx.below hB0) hs _ h2.out).mono ?_
  rintro e w1 ⟨rfl, hb1⟩
  have hB1 := bstep hB0 hb1
  replace k0 := (hb1.block _ (by simp)).trans k0
  replace hx := hx.below hB1
  clear hb1 hB0
  cases p2
  case false =>
    simp only [Bool.true_and, Bool.false_and] at hr
    subst hr
    go_wp2_with fail
    go_ret
    exact ⟨rfl, hB1⟩
  obtain ⟨_, c1, c2, _, _, c5⟩ := six_cells k0
  clear k0
  go_wp2_with fail
  refine (userValid_impl x.user _ (by omega) _ h3.out).mono ?_
  rintro e w2 ⟨rfl, rfl⟩
  cases p3
  case false =>
    simp only [Bool.true_and, Bool.false_and, Bool.and_false] at hr
    subst hr
    go_wp2_with fail
    go_ret
    exact ⟨rfl, hB1⟩
  simp only [Bool.true_and] at hr
  rcases hkind.out (by first | trivial | rfl) with ⟨hk, rfl⟩ | hk
  · have hb3 : (x.to.kind == 3) = false := by rw [hk]; rfl
    have hd : decide (x.to.kind = 3) = false := by rw [hk]; rfl
    rw [hd, Bool.false_or] at hr
    obtain ⟨t, ht⟩ : ∃ t, decide (x.to.quad.take 3 = [0, 0, 0]) = t := ⟨_, rfl⟩
    rw [ht] at hr
    subst hr
    replace ht := Lib.hid ht
    have hc3 : (3 : Int) ≤ (c : Int) := by omega
    have hx3 := rd_take3 hx (by omega)
    clear hk hd hl
    go_wp2_with fail
    refine (equal_int A _ 3 3 c _ (x.to.quad.take 3) [0, 0, 0] _ (hx3.alloc _) (rd_lit _ 3 #[.int .i64 0, .int .i64 0, .int .i64 0] 3 (by omega) rfl)).mono ?_
    rintro e w3 ⟨rfl, q, rfl⟩
    rw [ht.out]
    go_wp2_with fail
    go_ret
    exact ⟨rfl, bdrewN (hB1.alloc hB1.size _) _⟩
  · have hb3 : (x.to.kind == 3) = true := by rw [hk]; rfl
    have hd : decide (x.to.kind = 3) = true := by rw [hk]; rfl
    rw [hd, Bool.true_or] at hr
    subst hr
    clear hk hd hl
    go_wp2_with fail
    go_ret
    exact ⟨rfl, hB1⟩
theorem quad_sum {q : List Int} (h : qv q = true) : ∃ a b g d : Int, q = [a, b, g, d] ∧ (0 ≤ a ∧ a ≤ 255) ∧ (0 ≤ b ∧ b ≤ 255) ∧ (0 ≤ g ∧ g ≤ 255) ∧ (!decide (q.take 3 = [0, 0, 0])) = decide (0 < a + b + g) := by
  obtain ⟨a, b, g, d, rfl, ha, hb, hg, _⟩ := qv_four h
  refine ⟨a, b, g, d, rfl, ha, hb, hg, ?_⟩
  rw [Bool.eq_iff_iff]
  simp
  omega
set_option maxRecDepth 20000 in
set_option maxHeartbeats 2000000 in
theorem l4Ok_any (x : Od) (A : Option Addr) (n c : Nat) (w : World) (hx : Rd w A n (ints x.to.quad)) (hs : x.to.name.size ≤ 4000000) (hu : x.user.size ≤ 4000000) (r : Bool) (hr : odV x = r) :
    Calls Tryd.prog 59 #[odVal x A n c] w fun e w' => e = .returned (.bool r) ∧ Below w.heap.size w w' := by
  obtain ⟨p1, h1⟩ : ∃ p, inR x.cmd 1 2 = p := ⟨_, rfl⟩
  obtain ⟨p2, h2⟩ : ∃ p, adV x.to = p := ⟨_, rfl⟩
  obtain ⟨p3, h3⟩ : ∃ p, userV (sInts x.user) = p := ⟨_, rfl⟩
  rw [odV_parts h1 h2 h3] at hr
  have hl := hx.ilen
  have k0 := heap_alloc_new w (.cells #[.int .i64 x.cmd, .int .i64 x.to.kind, .slice A n c, .string x.to.name, .int .i64 x.to.port, .string x.user] 39)
  have hB0 : Below w.heap.size w (w.alloc (.cells #[.int .i64 x.cmd, .int .i64 x.to.kind, .slice A n c, .string x.to.name, .int .i64 x.to.port, .string x.user] 39)) := by go_grown
  replace h1 := Lib.hid h1
  cases p1
  case false =>
    simp only [Bool.false_and] at hr
    subst hr
    clear k0 hx
    go_enter Tryd.func59, Tryd.ntmps59
    go_wp2_with (go_at_call 71; refine (l6In_any _ _ _ _ _ h1.out).mono ?_; rintro e w' ⟨rfl, rfl⟩)
    go_ret
    exact ⟨rfl, hB0⟩
  go_enter Tryd.func59, Tryd.ntmps59
  go_wp2_with fail
  refine (l6In_any _ _ _ _ _ h1.out).mono ?_
  rintro e w1 ⟨rfl, rfl⟩
  have hkind : p2 = true → (x.to.kind = 1 ∧ qv x.to.quad = true) ∨ x.to.kind = 3 := by
    intro e
    rw [e] at h2
    rcases (adV_true.1 h2).2 with h | h
    · exact .inl ⟨h.1, h.2.1⟩
    · exact .inr h.1
  replace hkind := Lib.hid hkind
  replace h2 := Lib.hid h2
  replace h3 := Lib.hid h3
  go_wp2_with fail
  refine (addressValid_spec x.to A n c _ (hx.below hB0) hs _ h2.out).mono ?_
  rintro e w1 ⟨rfl, hb1⟩
  have hB1 := bstep hB0 hb1
  replace k0 := (hb1.block _ (by simp)).trans k0
  replace hx := hx.below hB1
  clear hb1 hB0
  cases p2
  case false =>
    simp only [Bool.true_and, Bool.false_and] at hr
    subst hr
    go_wp2_with fail
    go_ret
    exact ⟨rfl, hB1⟩
  obtain ⟨_, c1, c2, _, _, c5⟩ := six_cells k0
  clear k0
  go_wp2_with fail
  refine (userValid_spec x.user _ (by omega) _ h3.out).mono ?_
  rintro e w2 ⟨rfl, rfl⟩
  cases p3
  case false =>
    simp only [Bool.true_and, Bool.false_and, Bool.and_false] at hr
    subst hr
    go_wp2_with fail
    go_ret
    exact ⟨rfl, hB1⟩
  simp only [Bool.true_and] at hr
  rcases hkind.out (by first | trivial | rfl) with ⟨hk, hq⟩ | hk
  · have hb3 : (x.to.kind == 3) = false := by rw [hk]; rfl
    have hd : decide (x.to.kind = 3) = false := by rw [hk]; rfl
    rw [hd, Bool.false_or] at hr
    obtain ⟨a, b, g, d, hQ, ha, hb, hg, ht⟩ := quad_sum hq
    rw [ht] at hr
    obtain rfl : n = 4 := by rw [← hl, hQ]; rfl
    rw [hQ] at hx
    obtain ⟨bb, off, rfl, hcl⟩ := hx.cells (by omega)
    have q0 : w1.cell? ⟨bb, off, none⟩ = some (.int .i64 a) := hcl 0 a rfl
    have q1 := hcl 1 b rfl
    have q2 := hcl 2 g rfl
    have s1 : IntKind.i64.wrap (a + b) = a + b := by rw [IntKind.wrap_i64]; omega
    have s2 : IntKind.i64.wrap (a + b + g) = a + b + g := by rw [IntKind.wrap_i64]; omega
    clear hk hd hl hcl hx hQ ht hq
    cases r
    all_goals
      go_wp2_with fail
      go_quiet (fail)
      go_wp2_with fail
      go_ret
      exact ⟨rfl, bdrewN hB1 _⟩
  · have hb3 : (x.to.kind == 3) = true := by rw [hk]; rfl
    have hd : decide (x.to.kind = 3) = true := by rw [hk]; rfl
    rw [hd, Bool.true_or] at hr
    subst hr
    clear hk hd hl
    go_wp2_with fail
    go_quiet (fail)
    go_wp2_with fail
    go_ret
    exact ⟨rfl, bdrewN hB1 _⟩
end Go.Proofs.YtjlgkepbflcefaaDoor
