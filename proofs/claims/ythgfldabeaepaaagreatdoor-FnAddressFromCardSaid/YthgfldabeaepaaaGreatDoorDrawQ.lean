/- The function that draws the numbers of an IPv4 address or of something near it. No condition. -/
import Derived.Test.YthgfldabeaepaaaGreatDoorDraw
namespace Go.Proofs.YthgfldabeaepaaaGreatDoor
open Go.RowKit
theorem rd_four (w : World) (x0 x1 x2 x3 : Int) : (w.alloc (.cells #[.int .i64 x0, .int .i64 x1, .int .i64 x2, .int .i64 x3] 3)).ownsRow w.heap.size 3 1 (.slice (some ⟨w.heap.size, 0, none⟩) 4 4) 4 (ints [x0, x1, x2, x3]) := World.ownsRow_lit _ _ 4 (Nat.le_refl _) (by decide) rfl
/-- What the operations of the statement that makes four bytes leave in their slots. -/
def quadSlot (B g : Nat) (i : Nat) (v : Value) (w : World) : Prop :=
  match i with
  | 0 | 3 | 7 | 9 | 11 => v = .pointer (some ⟨g, 0, none⟩)
  | 1 | 6 | 8 | 10 | 12 => ∃ x : Int, v = .int .i64 x
  | 4 => ∃ x : Nat, x < 5 ∧ v = .int .i64 (x : Int)
  | 2 => ∃ (b : Nat) (ys : List Int), v = .slice (some ⟨b, 0, none⟩) 5 5 ∧ b ≠ g ∧ Rd w (some ⟨b, 0, none⟩) 5 (ints ys)
  | 5 => ∃ (b j : Nat) (y : Int), v = .pointer (some ⟨b, j, none⟩) ∧ b ≠ g ∧ w.cell? ⟨b, j, none⟩ = some (.int .i64 y)
  | _ => ∃ (b : Nat) (x0 x1 x2 x3 : Int), v = .slice (some ⟨b, 0, none⟩) 4 4 ∧ w.ownsRow B 3 1 v 4 (ints [x0, x1, x2, x3])
theorem quadSlot_keep {B g : Nat} {w w' : World} (hg : w.grownBy w' (some g)) (hlt : g < B) (i : Nat) (v : Value) (h : quadSlot B g i v w) : quadSlot B g i v w' := by
  unfold quadSlot at *
  split at h
  all_goals first | exact h | skip
  · obtain ⟨b, ys, hv, hb, hr⟩ := h
    exact ⟨b, ys, hv, hb, hr.grown hg (.inr (by simpa using hb))⟩
  · obtain ⟨b, j, y, hv, hb, hc⟩ := h
    exact ⟨b, j, y, hv, hb, hg.cell hc (by simpa using hb)⟩
  · obtain ⟨b, x0, x1, x2, x3, hv, ho⟩ := h
    exact ⟨b, x0, x1, x2, x3, hv, own_pick ho hg hlt⟩
/-- The frame of that statement: u in the slots that it writes. -/
def quadFrame (g : Nat) (u : Nat → Value) : Act := ⟨#[.pointer (some ⟨g, 0, none⟩), undef, .slice none 0 0, u 14, u 0, u 1, u 2, u 3, u 4, u 5, u 6, u 7, u 8, u 9, u 10, u 11, u 12, u 13, undef, undef, undef, undef, undef, undef, undef, undef, undef, undef, undef, undef, undef], []⟩
theorem getD_none (n j : Nat) : (Array.replicate n false).getD j false = false := by simp [Array.getD]
set_option maxRecDepth 20000 in
set_option maxHeartbeats 4000000 in
theorem l91Quad_any (g m : Nat) (w : World) (hr : Rdr w g m) (hm : m ≤ 90000) :
    Calls Tryz.prog 29 #[.pointer (some ⟨g, 0, none⟩)] w (DrewInts w g (m + 400)) := by
  have hlt := hr.lt
  go_enter Tryz.func29, Tryz.ntmps29
  go_upto_region 1 with fail
  go_cut [3] (fun v wx => ∃ (b : Nat) (x0 x1 x2 x3 : Int), v = .slice (some ⟨b, 0, none⟩) 4 4 ∧ wx.ownsRow w.heap.size 3 1 v 4 (ints [x0, x1, x2, x3]) ∧ Rdr wx g (m + 20) ∧ w.grownBy wx (some g))
  case first =>
    refine wp_region_any (by kernel_rfl) ?_
    change wpAny _ _ _ _ _ _ _ (World.drew w)
    refine wpAny_slots (quadFrame g) (quadSlot w.heap.size g) (fun t w' => t ≤ 15 ∧ Rdr w' g (m + t) ∧ w.grownBy w' (some g)) ?topo ?put ?step ?fin _ 0 _ (fun _ => undef) _ rfl rfl rfl ?ok0 ⟨by omega, hr, ⟨rfl, rfl, rfl, Nat.le_refl _, fun _ _ _ => rfl⟩⟩
    case topo =>
      intro i o ho e he
      have hi : i < 15 := (Array.getElem?_eq_some_iff.1 ho).1
      obtain rfl | rfl | rfl | rfl | rfl | rfl | rfl | rfl | rfl | rfl | rfl | rfl | rfl | rfl | rfl : i = 0 ∨ i = 1 ∨ i = 2 ∨ i = 3 ∨ i = 4 ∨ i = 5 ∨ i = 6 ∨ i = 7 ∨ i = 8 ∨ i = 9 ∨ i = 10 ∨ i = 11 ∨ i = 12 ∨ i = 13 ∨ i = 14 := by omega
      all_goals
        cases ho
        revert e
        simp
    case put =>
      intro i o ho u v
      have hi : i < 15 := (Array.getElem?_eq_some_iff.1 ho).1
      obtain rfl | rfl | rfl | rfl | rfl | rfl | rfl | rfl | rfl | rfl | rfl | rfl | rfl | rfl | rfl : i = 0 ∨ i = 1 ∨ i = 2 ∨ i = 3 ∨ i = 4 ∨ i = 5 ∨ i = 6 ∨ i = 7 ∨ i = 8 ∨ i = 9 ∨ i = 10 ∨ i = 11 ∨ i = 12 ∨ i = 13 ∨ i = 14 := by omega
      all_goals
        cases ho
        rfl
    case ok0 =>
      intro j hj
      exact absurd (hj.symm.trans (getD_none _ _)) (by decide)
    case fin =>
      intro u w1 hok ⟨t, ht, hr1, hg1⟩
      obtain ⟨b, x0, x1, x2, x3, hv, ho⟩ := hok 14 (by decide)
      unfold quadFrame
      go_wp2_with fail
      go_meet
      exact ⟨b, x0, x1, x2, x3, hv, ho, hr1.mono (by omega), hg1⟩
    case step =>
    intro i o t u w1 ho ht hdep ⟨ht15, hJ1, hJ2⟩
    have hi : i < 15 := (Array.getElem?_eq_some_iff.1 ho).1
    replace ht : t < 15 := ht
    obtain rfl | rfl | rfl | rfl | rfl | rfl | rfl | rfl | rfl | rfl | rfl | rfl | rfl | rfl | rfl : i = 0 ∨ i = 1 ∨ i = 2 ∨ i = 3 ∨ i = 4 ∨ i = 5 ∨ i = 6 ∨ i = 7 ∨ i = 8 ∨ i = 9 ∨ i = 10 ∨ i = 11 ∨ i = 12 ∨ i = 13 ∨ i = 14 := by omega
    · cases ho
      refine wpOp_plain (by rfl) rfl fun K hK => ?_
      go_wp2_with fail
      exact ⟨_, rfl, rfl, fun _ _ h => h, by omega, hJ1.mono (by omega), hJ2⟩
    · cases ho
      refine wpOp_plain (by rfl) rfl fun K hK => ?_
      have d0 : u 0 = .pointer (some ⟨g, 0, none⟩) := hdep 0 ⟨⟨0, .data⟩, by simp, rfl, rfl⟩
      unfold quadFrame
      rw [d0]
      go_wp2_with fail
      refine (pick_any g _ _ _ hJ1 (by omega) (by omega)).mono ?_
      rintro e w2 ⟨x, rfl, h0, h1, hr2, hg2⟩
      replace h1 := h1 (by omega)
      go_wp2_with fail
      exact ⟨_, by unfold quadFrame; rw [d0]; rfl, ⟨x, rfl⟩, fun j v h => quadSlot_keep hg2 hlt j v h, by omega, hr2, grown_trans hJ2 hg2⟩
    · cases ho
      refine wpOp_plain (by rfl) rfl fun K hK => ?_
      obtain ⟨x, d1⟩ : ∃ x : Int, u 1 = .int .i64 x := hdep 1 ⟨⟨1, .data⟩, by simp, rfl, rfl⟩
      unfold quadFrame
      rw [d1]
      go_wp2_with fail
      exact ⟨_, by unfold quadFrame; rw [d1]; rfl, ⟨_, [0, 1, 10, 255, x], rfl, by have := hJ1.lt; omega, rd_lit w1 3 #[.int .i64 0, .int .i64 1, .int .i64 10, .int .i64 255, .int .i64 x] 5 (by omega) rfl⟩, fun j v h => quadSlot_keep (World.grownBy_alloc w1 _ _) hlt j v h, by omega, (hJ1.alloc _).mono (by omega), grown_trans hJ2 (World.grownBy_alloc w1 _ _)⟩
    · cases ho
      refine wpOp_plain (by rfl) rfl fun K hK => ?_
      go_wp2_with fail
      exact ⟨_, rfl, rfl, fun _ _ h => h, by omega, hJ1.mono (by omega), hJ2⟩
    · cases ho
      refine wpOp_plain (by rfl) rfl fun K hK => ?_
      have d0 : u 3 = .pointer (some ⟨g, 0, none⟩) := hdep 3 ⟨⟨3, .data⟩, by simp, rfl, rfl⟩
      unfold quadFrame
      rw [d0]
      go_wp2_with fail
      refine (pick_any g _ _ _ hJ1 (by omega) (by omega)).mono ?_
      rintro e w2 ⟨x, rfl, h0, h1, hr2, hg2⟩
      replace h1 := h1 (by omega)
      obtain ⟨x, rfl⟩ := Int.eq_ofNat_of_zero_le h0
      go_wp2_with fail
      exact ⟨_, by unfold quadFrame; rw [d0]; rfl, ⟨x, by omega, rfl⟩, fun j v h => quadSlot_keep hg2 hlt j v h, by omega, hr2, grown_trans hJ2 hg2⟩
    · cases ho
      refine wpOp_plain (by rfl) rfl fun K hK => ?_
      obtain ⟨b, ys, d2, hb, hrd⟩ : ∃ (b : Nat) (ys : List Int), u 2 = .slice (some ⟨b, 0, none⟩) 5 5 ∧ b ≠ g ∧ Rd w1 (some ⟨b, 0, none⟩) 5 (ints ys) := hdep 2 ⟨⟨2, .data⟩, by simp, rfl, rfl⟩
      obtain ⟨x, hx5, d4⟩ : ∃ x : Nat, x < 5 ∧ u 4 = .int .i64 (x : Int) := hdep 4 ⟨⟨4, .data⟩, by simp, rfl, rfl⟩
      obtain ⟨b1, o1, y, hA, hy, hcy⟩ := hrd.int (k := x) (by omega)
      injection hA with hA
      injection hA with hA1 hA2
      subst hA1 hA2
      unfold quadFrame
      rw [d2, d4]
      replace hK := Lib.hid hK
      go_wp2_with fail
      exact hK.out _ _ ⟨_, by unfold quadFrame; rw [d2, d4]; rfl, ⟨b, x, y, by simp, hb, by simpa using hcy⟩, fun _ _ h => h, by omega, hJ1.mono (by omega), hJ2⟩
    · cases ho
      refine wpOp_plain (by rfl) rfl fun K hK => ?_
      obtain ⟨b, j, y, d5, hb, hcy⟩ : ∃ (b j : Nat) (y : Int), u 5 = .pointer (some ⟨b, j, none⟩) ∧ b ≠ g ∧ w1.cell? ⟨b, j, none⟩ = some (.int .i64 y) := hdep 5 ⟨⟨5, .data⟩, by simp, rfl, rfl⟩
      unfold quadFrame
      rw [d5]
      go_wp2_with fail
      exact ⟨_, by unfold quadFrame; rw [d5]; rfl, ⟨y, rfl⟩, fun _ _ h => h, by omega, hJ1.mono (by omega), hJ2⟩
    · cases ho
      refine wpOp_plain (by rfl) rfl fun K hK => ?_
      go_wp2_with fail
      exact ⟨_, rfl, rfl, fun _ _ h => h, by omega, hJ1.mono (by omega), hJ2⟩
    · cases ho
      refine wpOp_plain (by rfl) rfl fun K hK => ?_
      have d0 : u 7 = .pointer (some ⟨g, 0, none⟩) := hdep 7 ⟨⟨7, .data⟩, by simp, rfl, rfl⟩
      unfold quadFrame
      rw [d0]
      go_wp2_with fail
      refine (pick_any g _ _ _ hJ1 (by omega) (by omega)).mono ?_
      rintro e w2 ⟨x, rfl, h0, h1, hr2, hg2⟩
      replace h1 := h1 (by omega)
      go_wp2_with fail
      exact ⟨_, by unfold quadFrame; rw [d0]; rfl, ⟨x, rfl⟩, fun j v h => quadSlot_keep hg2 hlt j v h, by omega, hr2, grown_trans hJ2 hg2⟩
    · cases ho
      refine wpOp_plain (by rfl) rfl fun K hK => ?_
      go_wp2_with fail
      exact ⟨_, rfl, rfl, fun _ _ h => h, by omega, hJ1.mono (by omega), hJ2⟩
    · cases ho
      refine wpOp_plain (by rfl) rfl fun K hK => ?_
      have d0 : u 9 = .pointer (some ⟨g, 0, none⟩) := hdep 9 ⟨⟨9, .data⟩, by simp, rfl, rfl⟩
      unfold quadFrame
      rw [d0]
      go_wp2_with fail
      refine (pick_any g _ _ _ hJ1 (by omega) (by omega)).mono ?_
      rintro e w2 ⟨x, rfl, h0, h1, hr2, hg2⟩
      replace h1 := h1 (by omega)
      go_wp2_with fail
      exact ⟨_, by unfold quadFrame; rw [d0]; rfl, ⟨x, rfl⟩, fun j v h => quadSlot_keep hg2 hlt j v h, by omega, hr2, grown_trans hJ2 hg2⟩
    · cases ho
      refine wpOp_plain (by rfl) rfl fun K hK => ?_
      go_wp2_with fail
      exact ⟨_, rfl, rfl, fun _ _ h => h, by omega, hJ1.mono (by omega), hJ2⟩
    · cases ho
      refine wpOp_plain (by rfl) rfl fun K hK => ?_
      have d0 : u 11 = .pointer (some ⟨g, 0, none⟩) := hdep 11 ⟨⟨11, .data⟩, by simp, rfl, rfl⟩
      unfold quadFrame
      rw [d0]
      go_wp2_with fail
      refine (pick_any g _ _ _ hJ1 (by omega) (by omega)).mono ?_
      rintro e w2 ⟨x, rfl, h0, h1, hr2, hg2⟩
      replace h1 := h1 (by omega)
      go_wp2_with fail
      exact ⟨_, by unfold quadFrame; rw [d0]; rfl, ⟨x, rfl⟩, fun j v h => quadSlot_keep hg2 hlt j v h, by omega, hr2, grown_trans hJ2 hg2⟩
    · cases ho
      refine wpOp_plain (by rfl) rfl fun K hK => ?_
      obtain ⟨x0, d6⟩ : ∃ x : Int, u 6 = .int .i64 x := hdep 6 ⟨⟨6, .data⟩, by simp, rfl, rfl⟩
      obtain ⟨x1, d8⟩ : ∃ x : Int, u 8 = .int .i64 x := hdep 8 ⟨⟨8, .data⟩, by simp, rfl, rfl⟩
      obtain ⟨x2, d10⟩ : ∃ x : Int, u 10 = .int .i64 x := hdep 10 ⟨⟨10, .data⟩, by simp, rfl, rfl⟩
      obtain ⟨x3, d12⟩ : ∃ x : Int, u 12 = .int .i64 x := hdep 12 ⟨⟨12, .data⟩, by simp, rfl, rfl⟩
      unfold quadFrame
      rw [d6, d8, d10, d12]
      go_wp2_with fail
      exact ⟨_, by unfold quadFrame; rw [d6, d8, d10, d12]; rfl, ⟨_, x0, x1, x2, x3, rfl, own_base (rd_four w1 x0 x1 x2 x3) hJ2.size⟩, fun j v h => quadSlot_keep (World.grownBy_alloc w1 _ _) hlt j v h, by omega, (hJ1.alloc _).mono (by omega), grown_trans hJ2 (World.grownBy_alloc w1 _ _)⟩
    · cases ho
      refine wpOp_plain (by rfl) rfl fun K hK => ?_
      have d13 : ∃ (b : Nat) (x0 x1 x2 x3 : Int), u 13 = .slice (some ⟨b, 0, none⟩) 4 4 ∧ w1.ownsRow w.heap.size 3 1 (u 13) 4 (ints [x0, x1, x2, x3]) := hdep 13 ⟨⟨13, .data⟩, by simp, rfl, rfl⟩
      generalize hu13 : u 13 = v13 at d13
      unfold quadFrame
      rw [hu13]
      go_wp2_with fail
      exact ⟨_, by unfold quadFrame; rw [hu13]; rfl, d13, fun _ _ h => h, by omega, hJ1.mono (by omega), hJ2⟩
  case rest =>
    obtain ⟨b, x0, x1, x2, x3, rfl, ho, hrq, hgq⟩ := hcut
    clear hr
    go_wp2_with fail
    refine (pick_any g _ _ _ hrq (by omega) (by omega)).mono ?_
    rintro e w2 ⟨x, rfl, hx0, hx1, hr2, hg2⟩
    have ho2 := own_pick ho hg2 hlt
    have hG2 := grown_trans hgq hg2
    clear hg2 ho hrq hgq
    by_cases h0 : x = 0
    · subst h0
      go_wp2_with fail
      refine (pick_any g _ _ _ hr2 (by omega) (by omega)).mono ?_
      rintro e w3 ⟨y, rfl, hy0, hy1, hr3, hg3⟩
      replace hy1 := hy1 (by omega)
      obtain ⟨j, rfl⟩ := Int.eq_ofNat_of_zero_le hy0
      have ho3 := own_pick ho2 hg3 hlt
      have hG3 := grown_trans hG2 hg3
      clear hg3 ho2 hr2 hG2
      obtain ⟨g', hA, hBg, hgw, hcell, hfz, hset⟩ := own_block ho3 (by omega)
      injection hA with hA
      injection hA with hA
      subst hA
      have hc4 : w3.cell? ⟨b, j, none⟩ = some ((ints [x0, x1, x2, x3])[j]'(by simp [ints]; omega)) := by
        rw [hcell j (by omega)]
        exact List.getElem?_eq_getElem _
      generalize (ints [x0, x1, x2, x3])[j]'(by simp [ints]; omega) = old at hc4
      have hf4 := hfz j
      obtain ⟨hs1, hs2⟩ := hset j (.int .i64 256)
      rw [show (ints [x0, x1, x2, x3]).set j (.int .i64 256) = ints ([x0, x1, x2, x3].set j 256) by simp [ints, List.map_set]] at hs1
      have hG5 := grown_step hG3 hs2 (fun q hq => by injection hq with hq; omega)
      have hr5 := hr3.grow hs2 (fun q hq => by injection hq with hq; omega)
      clear hcell hfz hset hs2 ho3
      go_wp2_with fail
      go_ret
      exact ⟨_, 4, 4, _, rfl, by omega, hs1, hr5.mono (by omega), hG5⟩
    by_cases h1 : x = 1
    · subst h1
      go_wp2_with fail
      go_ret
      exact ⟨_, 3, 4, [x0, x1, x2], rfl, by omega, own_take (k := 3) ho2 (by omega), hr2.mono (by omega), hG2⟩
    · have hne0 : (x == 0) = false := by simpa using h0
      have hne1 : (x == 1) = false := by simpa using h1
      go_wp2_with fail
      go_ret
      exact ⟨_, 4, 4, _, rfl, by omega, ho2, hr2.mono (by omega), hG2⟩
end Go.Proofs.YthgfldabeaepaaaGreatDoor
