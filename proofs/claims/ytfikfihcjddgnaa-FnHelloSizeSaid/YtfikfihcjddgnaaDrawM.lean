/- The functions that draw methods. No condition. -/
import Derived.Test.YtfikfihcjddgnaaDraw
import Derived.Maps.AppendAt
namespace Go.Proofs.Ytfikfihcjddgnaa
open Go.RowKit
theorem ne_block {v v' : Value} {g n : Nat} (h : v.ownBlock ≠ some g) (hlt : g < n) (hv : v'.ownBlock = v.ownBlock ∨ v'.ownBlock = some n) : v'.ownBlock ≠ some g := by
  rcases hv with e | e
  · rwa [e]
  · rw [e]
    simp
    omega
theorem Rd.other {w w' : World} {b o n : Nat} {vs : List Value} {v : Value} (h : Rd w (some ⟨b, o, none⟩) n vs) (hv : v.ownBlock ≠ some b) (hg : w.grownBy w' v.ownBlock) : Rd w' (some ⟨b, o, none⟩) n vs :=
  h.grown hg (.inr fun e => hv e.symm)
set_option maxHeartbeats 2000000 in
theorem l91Methods_any (g m : Nat) (w : World) (hr : Rdr w g m) (hm : m ≤ 90000) :
    Calls Try.prog 13 #[.pointer (some ⟨g, 0, none⟩)] w (DrewInts w g (m + 400)) := by
  obtain ⟨i0, hi, hz0, hz1, hz2⟩ := info_parts Try.infoInt
  have hlt := hr.lt
  have ho0 := (own_empty w).alloc (.cells #[.int .i64 2, .int .i64 0, .int .i64 1, .int .i64 3, .int .i64 128] 3)
  have hrd0 : Rd ((w.alloc (.cells #[] 3)).alloc (.cells #[.int .i64 2, .int .i64 0, .int .i64 1, .int .i64 3, .int .i64 128] 3)) (some ⟨w.heap.size + 1, 0, none⟩) 5 (ints [2, 0, 1, 3, 128]) := by
    have := rd_lit (w.alloc (.cells #[] 3)) 3 #[.int .i64 2, .int .i64 0, .int .i64 1, .int .i64 3, .int .i64 128] 5 (by omega) rfl
    simpa using this
  have hr0 := (hr.alloc (.cells #[] 3)).alloc (.cells #[.int .i64 2, .int .i64 0, .int .i64 1, .int .i64 3, .int .i64 128] 3)
  have hG0 := grown_trans (World.grownBy_alloc w (.cells #[] 3) (some g)) (World.grownBy_alloc (w.alloc (.cells #[] 3)) (.cells #[.int .i64 2, .int .i64 0, .int .i64 1, .int .i64 3, .int .i64 128] 3) (some g))
  have hne0 : Value.ownBlock (.slice (some ⟨w.heap.size, 0, none⟩) 0 0) ≠ some (w.heap.size + 1) := by simp [Value.ownBlock]
  go_enter Try.func13, Try.ntmps13
  go_wp2
  have hsz0 : w.heap.size + 1 < ((w.alloc (.cells #[] 3)).alloc (.cells #[.int .i64 2, .int .i64 0, .int .i64 1, .int .i64 3, .int .i64 128] 3)).heap.size := by simp
  generalize (w.alloc (.cells #[] 3)).alloc (.cells #[.int .i64 2, .int .i64 0, .int .i64 1, .int .i64 3, .int .i64 128] 3) = wA at ho0 hrd0 hr0 hG0 hsz0 ⊢
  have hgn : g < w.heap.size + 1 := by omega
  have hgB : w.heap.size ≤ w.heap.size + 1 := by omega
  generalize hga : w.heap.size + 1 = ga at hrd0 hne0 hsz0 hgn hgB ⊢
  generalize hg0 : (some (⟨w.heap.size, 0, none⟩ : Addr)) = A0 at ho0 hne0 ⊢
  clear hga hg0
  go_loopw [3, 5] (fun v i wr => ∃ (k n : Nat) (A : Option Addr) (c : Nat) (zs : List Int), k ≤ 5 ∧ n ≤ k ∧ i = .int .i64 k ∧ v = .slice A n c ∧ wr.ownsRow w.heap.size 3 1 (.slice A n c) n (ints zs) ∧ Value.ownBlock (.slice A n c) ≠ some ga ∧
    Rd wr (some ⟨ga, 0, none⟩) 5 (ints [2, 0, 1, 3, 128]) ∧ ga < wr.heap.size ∧ Rdr wr g (m + k) ∧ w.grownBy wr (some g)) (fun _ i _ => 5 - (intOf i).toNat)
  case atStart => exact ⟨0, 0, _, _, [], Nat.zero_le _, Nat.le_refl _, rfl, rfl, ho0, hne0, hrd0, hsz0, hr0, hG0⟩
  case round =>
    clear ho0 hne0 hrd0 hsz0 hr0 hG0
    obtain ⟨k, n, A, c, zs, hk, hnk, rfl, rfl, hown, hne, hrd, hga, hrr, hG⟩ := hrel
    by_cases hlt' : k < 5
    · go_wp2_with fail
      refine (pick_any g _ _ _ hrr (by omega) (by omega)).mono ?_
      rintro e w2 ⟨x1, rfl, _, _, hr2, hg2⟩
      have hown2 := own_pick hown hg2 hlt
      have hrd2 := hrd.grown hg2 (.inr (by simp; omega))
      have hG2 := grown_trans hG hg2
      have hga2 := Nat.lt_of_lt_of_le hga hg2.size
      clear hown hrd hG hga hg2 hrr
      by_cases hx1 : x1 = 0
      · subst hx1
        obtain ⟨b1, o1, y, hA, hy, hcy⟩ := hrd2.int (k := k) (by omega)
        injection hA with hA
        injection hA with hA1 hA2
        subst hA1 hA2
        rw [Nat.zero_add] at hcy
        clear hy
        have h1c := ints_oneCell .i64 [y]
        have h63 : n + 1 ≤ maxLen := by unfold maxLen; omega
        have hbb : (n + 1) * 8 ≤ 140737488355328 := by omega
        have hsz := hG2.size
        have hbase : w.heap.size ≤ (w2.alloc (.cells #[.int .i64 y] 3)).heap.size := by simp; omega
        go_wp2_with (at_builtin; refine wpList_append_own_at _ rfl _ _ 23 rfl w.heap.size 3 i0 (.int .i64 0) 1 8 Try.underlying23 hi hz0 hz1 hz2 rfl (by decide) _ _ _ rfl (hown2.alloc _) ⟨w2.heap.size, 0, none⟩ 1 1 [.int .i64 y] rfl rfl (cell_one_new _ _ _) h1c h63 hbb hbase ?_)
        intro v' w3 hown3 hg3 _ hnb
        have hne3 := ne_block hne (by first | omega | (simp; omega)) hnb
        obtain ⟨A', c', rfl, _, _⟩ := own_form hown3
        have hrd3 := (hrd2.alloc (.cells #[.int .i64 y] 3)).other hne hg3
        have hr3 := (hr2.alloc (.cells #[.int .i64 y] 3)).grow hg3 fun q hq => Nat.lt_of_lt_of_le hlt (own_frees hown2 q hq)
        have hG3 := grown_step (grown_step hG2 (World.grownBy_alloc w2 (.cells #[.int .i64 y] 3) none) (fun q hq => by cases hq)) hg3 (own_frees hown2)
        have hga3 : ga < w3.heap.size := by have := hg3.size; simp at this; omega
        clear h1c h63 hbb hbase hg3 hown2 hrd2 hr2 hG2 hnb hne
        go_wp2
        go_roundw
        case rel => exact ⟨k + 1, n + 1, A', c', zs ++ [y], by omega, by omega, by go_num, rfl, by simpa [ints] using hown3, hne3, hrd3, hga3, hr3.mono (by omega), hG3⟩
        case measure => simp [intOf]; omega
      · have hne1 : (x1 == 0) = false := by simpa using hx1
        clear hx1
        go_wp2_with fail
        go_roundw
        case rel => exact ⟨k + 1, n, A, c, zs, by omega, by omega, by go_num, rfl, hown2, hne, hrd2, hga2, hr2.mono (by omega), hG2⟩
        case measure => simp [intOf]; omega
    · have hk' : k = 5 := by omega
      subst hk'
      clear hrd hga hne hlt'
      by_cases hn0 : n = 0
      · subst hn0
        have hz : zs = [] := by have := (Rd.own hown).ilen; exact List.eq_nil_of_length_eq_zero (by omega)
        subst hz
        have hsz := hG.size
        have h1c := ints_oneCell .i64 [0]
        have h63 : 0 + 1 ≤ maxLen := by unfold maxLen; omega
        go_wp2_with (at_builtin; refine wpList_append_own _ rfl _ _ 23 rfl w.heap.size 3 i0 (.int .i64 0) 1 8 Try.underlying23 hi hz0 hz1 hz2 rfl (by decide) _ _ _ rfl (hown.alloc _) ⟨wr.heap.size, 0, none⟩ 1 1 [.int .i64 0] rfl rfl (cell_one_new _ _ _) h1c h63 (by omega) (by simp; omega) ?_)
        intro v' w3 hown3 hg3 _
        replace hown3 : w3.ownsRow w.heap.size 3 1 v' 1 (ints [0]) := by simpa [ints] using hown3
        obtain ⟨A', c', rfl, _, _⟩ := own_form hown3
        replace hrr := (hrr.alloc (.cells #[.int .i64 0] 3)).grow hg3 fun q hq => Nat.lt_of_lt_of_le hlt (own_frees hown q hq)
        replace hG := grown_step (grown_step hG (World.grownBy_alloc wr (.cells #[.int .i64 0] 3) none) (fun q hq => by cases hq)) hg3 (own_frees hown)
        clear h1c h63 hg3 hown hsz
        obtain ⟨n, hn⟩ : ∃ n : Nat, n = 1 := ⟨1, rfl⟩
        obtain ⟨zs, hzs⟩ : ∃ zs : List Int, zs = [0] := ⟨_, rfl⟩
        obtain ⟨c, rfl⟩ : ∃ c, c = c' := ⟨_, rfl⟩
        have hown : w3.ownsRow w.heap.size 3 1 (.slice A' n c) n (ints zs) := by rw [hn, hzs]; exact hown3
        clear hown3 hzs
        rw [← hn]
        replace hn : 1 ≤ n ∧ n ≤ 1 := by omega
        go_wp2_with fail
        refine (pick_any g _ _ _ hrr (by omega) (by omega)).mono ?_
        rintro e w2 ⟨x1, rfl, _, _, hr2, hg2⟩
        have hown2 := own_pick hown hg2 hlt
        have hG2 := grown_trans hG hg2
        clear hown hG hg2 hrr
        obtain ⟨b, rfl, hBb, hgw, hcell, hfz, hset⟩ := own_block hown2 (by omega)
        have hl : (ints zs).length = n := by simpa using hown2.1
        obtain ⟨y, hy⟩ : ∃ y, zs[0]? = some y := ⟨zs[0]'(by simp at hl; omega), List.getElem?_eq_getElem _⟩
        have hc0 : w2.cell? ⟨b, 0, none⟩ = some (.int .i64 y) := by rw [hcell 0 (by omega)]; simp [ints, hy]
        have hf0 := hfz 0
        obtain ⟨hs1, hs2⟩ := hset 0 (.int .i64 255)
        rw [show (ints zs).set 0 (.int .i64 255) = ints (zs.set 0 255) by simp [ints, List.map_set]] at hs1
        clear hcell hfz hset hl hy
        have hsz := hG2.size
        by_cases e0 : x1 = 0
        · subst e0
          have hG3 := grown_step hG2 hs2 (fun q hq => by injection hq with hq; omega)
          have hr3 := hr2.grow hs2 (fun q hq => by injection hq with hq; omega)
          go_wp2_with fail
          go_ret
          exact ⟨_, n, c, _, rfl, by omega, hs1, hr3.mono (by omega), hG3⟩
        · clear hs1 hs2
          have e0' : (x1 == 0) = false := by simpa using e0
          by_cases e1 : x1 = 1
          · subst e1
            have h1c := ints_oneCell .i64 [y]
            have h63 : n + 1 ≤ maxLen := by unfold maxLen; omega
            have hbb : (n + 1) * 8 ≤ 140737488355328 := by omega
            have hbase : w.heap.size ≤ (w2.alloc (.cells #[.int .i64 y] 3)).heap.size := by simp; omega
            go_wp2_with (at_builtin; refine wpList_append_own _ rfl _ _ 23 rfl w.heap.size 3 i0 (.int .i64 0) 1 8 Try.underlying23 hi hz0 hz1 hz2 rfl (by decide) _ _ _ rfl (hown2.alloc _) ⟨w2.heap.size, 0, none⟩ 1 1 [.int .i64 y] rfl rfl (cell_one_new _ _ _) h1c h63 hbb hbase ?_)
            intro v' w3 hown3 hg3 _
            obtain ⟨A', c', rfl, _, _⟩ := own_form hown3
            have hr3 := (hr2.alloc (.cells #[.int .i64 y] 3)).grow hg3 fun q hq => Nat.lt_of_lt_of_le hlt (own_frees hown2 q hq)
            have hG3 := grown_step (grown_step hG2 (World.grownBy_alloc w2 (.cells #[.int .i64 y] 3) none) (fun q hq => by cases hq)) hg3 (own_frees hown2)
            clear h1c h63 hbb hbase hg3 hown2 hr2 hG2
            go_wp2
            go_ret
            exact ⟨A', n + 1, c', zs ++ [y], rfl, by omega, by simpa [ints] using hown3, hr3.mono (by omega), hG3⟩
          · have e1' : (x1 == 1) = false := by simpa using e1
            by_cases e2 : x1 = 2
            · subst e2
              go_wp2_with fail
              go_ret
              exact ⟨_, 0, _, [], rfl, by omega, own_base (own_empty w2) hsz, (hr2.alloc _).mono (by omega), grown_trans hG2 (World.grownBy_alloc w2 _ _)⟩
            · have e2' : (x1 == 2) = false := by simpa using e2
              go_wp2_with fail
              go_ret
              exact ⟨_, n, c, zs, rfl, by omega, hown2, hr2.mono (by omega), hG2⟩
      · have hn0' : ((n : Int) == 0) = false := by rw [beq_eq_false_iff_ne]; omega
        go_wp2_with fail
        refine (pick_any g _ _ _ hrr (by omega) (by omega)).mono ?_
        rintro e w2 ⟨x1, rfl, _, _, hr2, hg2⟩
        have hown2 := own_pick hown hg2 hlt
        have hG2 := grown_trans hG hg2
        clear hown hG hg2 hrr
        obtain ⟨b, rfl, hBb, hgw, hcell, hfz, hset⟩ := own_block hown2 (by omega)
        have hl : (ints zs).length = n := by simpa using hown2.1
        obtain ⟨y, hy⟩ : ∃ y, zs[0]? = some y := ⟨zs[0]'(by simp at hl; omega), List.getElem?_eq_getElem _⟩
        have hc0 : w2.cell? ⟨b, 0, none⟩ = some (.int .i64 y) := by rw [hcell 0 (by omega)]; simp [ints, hy]
        have hf0 := hfz 0
        obtain ⟨hs1, hs2⟩ := hset 0 (.int .i64 255)
        rw [show (ints zs).set 0 (.int .i64 255) = ints (zs.set 0 255) by simp [ints, List.map_set]] at hs1
        clear hcell hfz hset hl hy
        have hsz := hG2.size
        by_cases e0 : x1 = 0
        · subst e0
          have hG3 := grown_step hG2 hs2 (fun q hq => by injection hq with hq; omega)
          have hr3 := hr2.grow hs2 (fun q hq => by injection hq with hq; omega)
          go_wp2_with fail
          go_ret
          exact ⟨_, n, c, _, rfl, by omega, hs1, hr3.mono (by omega), hG3⟩
        · clear hs1 hs2
          have e0' : (x1 == 0) = false := by simpa using e0
          by_cases e1 : x1 = 1
          · subst e1
            have h1c := ints_oneCell .i64 [y]
            have h63 : n + 1 ≤ maxLen := by unfold maxLen; omega
            have hbb : (n + 1) * 8 ≤ 140737488355328 := by omega
            have hbase : w.heap.size ≤ (w2.alloc (.cells #[.int .i64 y] 3)).heap.size := by simp; omega
            go_wp2_with (at_builtin; refine wpList_append_own _ rfl _ _ 23 rfl w.heap.size 3 i0 (.int .i64 0) 1 8 Try.underlying23 hi hz0 hz1 hz2 rfl (by decide) _ _ _ rfl (hown2.alloc _) ⟨w2.heap.size, 0, none⟩ 1 1 [.int .i64 y] rfl rfl (cell_one_new _ _ _) h1c h63 hbb hbase ?_)
            intro v' w3 hown3 hg3 _
            obtain ⟨A', c', rfl, _, _⟩ := own_form hown3
            have hr3 := (hr2.alloc (.cells #[.int .i64 y] 3)).grow hg3 fun q hq => Nat.lt_of_lt_of_le hlt (own_frees hown2 q hq)
            have hG3 := grown_step (grown_step hG2 (World.grownBy_alloc w2 (.cells #[.int .i64 y] 3) none) (fun q hq => by cases hq)) hg3 (own_frees hown2)
            clear h1c h63 hbb hbase hg3 hown2 hr2 hG2
            go_wp2
            go_ret
            exact ⟨A', n + 1, c', zs ++ [y], rfl, by omega, by simpa [ints] using hown3, hr3.mono (by omega), hG3⟩
          · have e1' : (x1 == 1) = false := by simpa using e1
            by_cases e2 : x1 = 2
            · subst e2
              go_wp2_with fail
              go_ret
              exact ⟨_, 0, _, [], rfl, by omega, own_base (own_empty w2) hsz, (hr2.alloc _).mono (by omega), grown_trans hG2 (World.grownBy_alloc w2 _ _)⟩
            · have e2' : (x1 == 2) = false := by simpa using e2
              go_wp2_with fail
              go_ret
              exact ⟨_, n, c, zs, rfl, by omega, hown2, hr2.mono (by omega), hG2⟩
theorem drawHelloBytes_any (A : Option Addr) (n c : Nat) (zs : List Int) (w : World) (hx : Rd w A n (zs.map (Value.int .u8))) (hc : n ≤ c) (hv : ∀ z ∈ zs, 0 ≤ z ∧ z ≤ 255) :
    Calls Try.prog 5 #[.slice A n c] w fun e w' => ∃ A n c zs, e = .returned (.slice A n c) ∧ n ≤ 1000 ∧ w'.ownsRow w.heap.size 3 1 (.slice A n c) n (ints zs) ∧ Below w.heap.size w w' := by
  have hm := hx.max
  go_enter Try.func5, Try.ntmps5
  go_wp2_with fail
  refine (l6Open_any _ _ _ _ _ hx hc hv).mono ?_
  rintro e w1 ⟨g, rfl, hg, hr, hB⟩
  go_wp2_with fail
  refine (l91Methods_any g 0 _ hr (by omega)).mono ?_
  rintro e w3 ⟨A, n, c, zs, rfl, hn, ho, _, hg3⟩
  go_wp2_with fail
  go_ret
  exact ⟨A, n, c, zs, rfl, hn, own_base ho hB.size, bgrow hB hg3 fun k hk => by injection hk with hk; omega⟩
end Go.Proofs.Ytfikfihcjddgnaa
