/- The address that bytes begin with, in the reference. No condition. -/
import Derived.Test.YtjlgkepbflcefaaDoorAO
import Derived.Deep.RegionLaw
import Derived.Deep.DeepCutAuto
import Derived.Deep.RegionHeld3
namespace Go.Proofs.YtjlgkepbflcefaaDoor
open Go.RowKit
theorem l3Size_any (A : Option Addr) (n c : Nat) (zs : List Int) (w : World) (hx : Rd w A n (ints zs)) :
    Calls Tryd.prog 42 #[.slice A n c] w fun e w' => (∃ x : Int, e = .returned (.int .i64 x) ∧ (bv zs = true → x = adN zs)) ∧ w = w' := by
  have hl := hx.ilen
  have hm := hx.max
  by_cases h0 : n = 0
  · subst h0
    obtain rfl : zs = [] := List.eq_nil_of_length_eq_zero hl
    clear hl hx
    go_enter Tryd.func42, Tryd.ntmps42
    go_wp2_with fail
    go_ret
    exact ⟨⟨-1, rfl, fun _ => rfl⟩, rfl⟩
  obtain ⟨b, off, y, rfl, hy, hc0⟩ := hx.int (k := 0) (by omega)
  have hc0' : w.cell? ⟨b, off, none⟩ = some (.int .i64 y) := hc0
  have hd0 : decide ((0 : Int) < (n : Int)) = true := by simp; omega
  have hp0 : (0 : Int) < (n : Int) := by omega
  by_cases h1 : y = 1
  · have hN : adN zs = 7 := by simp [adN, hy, h1]
    have hb1 : (y == 1) = true := by simpa using h1
    clear h1 hy hl
    go_enter Tryd.func42, Tryd.ntmps42
    go_wp2_with fail
    go_ret
    exact ⟨⟨7, rfl, fun _ => hN.symm⟩, rfl⟩
  have hb1 : (y == 1) = false := by simpa using h1
  by_cases h3 : y = 3 ∧ 1 < n
  · obtain ⟨b', off', k, hA, hk, hc1⟩ := hx.int (k := 1) (by omega)
    cases hA
    have hN : bv zs = true → wrap64 (4 + k) = adN zs := by
      intro hb
      have := (bv_true.1 hb).2 k (List.mem_of_getElem? hk)
      have e : adN zs = 4 + k := by simp [adN, hy, h3.1, hk]
      rw [e]
      unfold wrap64
      omega
    have hb3 : (y == 3) = true := by simpa using h3.1
    have hd1 : decide ((1 : Int) < (n : Int)) = true := by simp; omega
    have hp1 : (1 : Int) < (n : Int) := by omega
    replace hN := Lib.hid hN
    clear h1 hy hl hk h3
    go_enter Tryd.func42, Tryd.ntmps42
    go_wp2_with fail
    go_ret
    exact ⟨⟨_, rfl, hN.out⟩, rfl⟩
  · have hN : adN zs = -1 := by
      unfold adN
      rw [hy, if_neg (by simpa using h1)]
      by_cases hy3 : y = 3
      · have hn1 : n = 1 := by omega
        rw [if_pos (by simpa using hy3)]
        have : zs[1]? = none := List.getElem?_eq_none (by omega)
        rw [this]
      · rw [if_neg (by simpa using hy3)]
    by_cases hn1 : n = 1
    · subst hn1
      replace hN := Lib.hid hN
      clear h1 hy hl h3
      go_enter Tryd.func42, Tryd.ntmps42
      go_wp2_with fail
      go_ret
      exact ⟨⟨-1, rfl, fun _ => hN.out.symm⟩, rfl⟩
    · have hb3 : (y == 3) = false := by
        have : y ≠ 3 := fun h => h3 ⟨h, by omega⟩
        simpa using this
      have hd1 : decide ((1 : Int) < (n : Int)) = true := by simp; omega
      replace hN := Lib.hid hN
      clear h1 hy hl h3
      go_enter Tryd.func42, Tryd.ntmps42
      go_wp2_with fail
      go_ret
      exact ⟨⟨-1, rfl, fun _ => hN.out.symm⟩, rfl⟩
theorem adO_none {zs : List Int} (h : ¬ (bv zs = true ∧ 0 ≤ adN zs ∧ adN zs ≤ zs.length ∧ adV (adP zs (adN zs).toNat) = true)) : adO zs = (Ad.none, 0, false) := by
  unfold adO
  rw [if_neg]
  simp only [Bool.and_eq_true, decide_eq_true_eq]
  exact fun hc => h ⟨hc.1.1.1, hc.1.1.2, hc.1.2, hc.2⟩
theorem adO_some {zs : List Int} (h1 : bv zs = true) (h2 : 0 ≤ adN zs) (h3 : adN zs ≤ zs.length) (h4 : adV (adP zs (adN zs).toNat) = true) : adO zs = (adP zs (adN zs).toNat, (adN zs).toNat, true) := by
  unfold adO
  rw [if_pos]
  simp only [Bool.and_eq_true, decide_eq_true_eq]
  exact ⟨⟨⟨h1, h2⟩, h3⟩, h4⟩
set_option maxRecDepth 20000 in
set_option maxHeartbeats 4000000 in
theorem addressOf_spec (A : Option Addr) (n c : Nat) (zs : List Int) (w : World) (hx : Rd w A n (ints zs)) (hc : n ≤ c) (hn : n ≤ 4000000) (a : Ad) (m : Nat) (b : Bool) (h : adO zs = (a, m, b)) :
    Calls Tryd.prog 15 #[.slice A n c] w (RetAO w a m b) := by
  have hl := hx.ilen
  replace h := Lib.hid h
  obtain ⟨p, hp⟩ : ∃ p, bv zs = p := ⟨_, rfl⟩
  replace hp := Lib.hid hp
  go_enter Tryd.func15, Tryd.ntmps15
  go_wp2_with fail
  refine calls_gen fun wA hwA => ?_
  have k0 : wA.heap[w.heap.size]? = some (.cells #[.int .i64 0, .slice none 0 0, .string ⟨#[]⟩, .int .i64 0] 24 (0, 0)) := by
    rw [hwA]
    exact heap_alloc_new w _
  have hBA : Below w.heap.size w wA := by rw [hwA]; go_grown
  have hsA : wA.heap.size = w.heap.size + 1 := by rw [hwA]; simp
  clear hwA
  replace hx := hx.below hBA
  refine (l3Size_any A n c zs _ hx).mono ?_
  rintro e w1 ⟨⟨x, rfl, hxN⟩, rfl⟩
  replace hxN := Lib.hid hxN
  obtain ⟨f0, f1, f2, f3⟩ := frozen_box k0
  obtain ⟨d0, d1, d2, d3⟩ := box_cells k0
  go_wp2_with fail
  refine (bytesValid_spec A n c zs _ hx _ hp.out).mono ?_
  rintro e w1 ⟨rfl, rfl⟩
  by_cases hfail : p = true ∧ 0 ≤ x ∧ x ≤ n
  case neg =>
    have hno := adO_none (zs := zs) fun hh => hfail (by
      have e := hxN.out hh.1
      rw [hp.out] at hh
      exact ⟨hh.1, by omega, by omega⟩)
    rw [h.out] at hno
    simp only [Prod.mk.injEq] at hno
    obtain ⟨rfl, rfl, rfl⟩ := hno
    replace k0 := Lib.hid k0
    cases p
    case false =>
      clear hfail
      go_wp2_with fail
      refine bodyPost_ret (results_cell3 rfl _ _ w.heap.size 24 _ (0, 0) _ rfl (row_set (row_set (row_set (row_set k0.out 0 _) 1 _) 2 _) 3 _) Tryd.underlying24 rfl (by kernel_rfl)) rfl
          ⟨none, 0, 0, rfl, by omega, (show (0 : Nat) ≤ 255 by omega), World.ownsRow_nil _ _ _ _, below_set (below_set (below_set (below_set hBA (Nat.le_refl _)) (Nat.le_refl _)) (Nat.le_refl _)) (Nat.le_refl _)⟩
    case true =>
      by_cases hx0 : x < 0
      · have g0 : decide (x < 0) = true := by simpa using hx0
        clear hfail hx0
        go_wp2_with fail
        refine bodyPost_ret (results_cell3 rfl _ _ w.heap.size 24 _ (0, 0) _ rfl (row_set (row_set (row_set (row_set k0.out 0 _) 1 _) 2 _) 3 _) Tryd.underlying24 rfl (by kernel_rfl)) rfl
          ⟨none, 0, 0, rfl, by omega, (show (0 : Nat) ≤ 255 by omega), World.ownsRow_nil _ _ _ _, below_set (below_set (below_set (below_set hBA (Nat.le_refl _)) (Nat.le_refl _)) (Nat.le_refl _)) (Nat.le_refl _)⟩
      · have g0 : decide (x < 0) = false := by simpa using hx0
        have g1 : decide ((n : Int) < x) = true := by
          have : ¬ (x ≤ n) := fun hh => hfail ⟨rfl, by omega, hh⟩
          simp
          omega
        clear hfail hx0
        go_wp2_with fail
        refine bodyPost_ret (results_cell3 rfl _ _ w.heap.size 24 _ (0, 0) _ rfl (row_set (row_set (row_set (row_set k0.out 0 _) 1 _) 2 _) 3 _) Tryd.underlying24 rfl (by kernel_rfl)) rfl
          ⟨none, 0, 0, rfl, by omega, (show (0 : Nat) ≤ 255 by omega), World.ownsRow_nil _ _ _ _, below_set (below_set (below_set (below_set hBA (Nat.le_refl _)) (Nat.le_refl _)) (Nat.le_refl _)) (Nat.le_refl _)⟩
  case pos =>
    obtain ⟨rfl, hx0, hxn⟩ := hfail
    obtain ⟨N, rfl⟩ := Int.eq_ofNat_of_zero_le hx0
    have hN := hxN.out hp.out
    have g0 : decide ((N : Int) < 0) = false := by simp
    have g1 : decide ((n : Int) < (N : Int)) = false := by simp; omega
    have hby := (bv_true.1 hp.out).2
    have hN2 : 4 ≤ N ∧ ∃ y, zs[0]? = some y ∧ ((y = 1 ∧ N = 7) ∨ (y = 3 ∧ ∃ k : Nat, k ≤ 255 ∧ zs[1]? = some (k : Int) ∧ N = 4 + k)) := by
      unfold adN at hN
      split at hN
      · next h1 => exact ⟨by omega, 1, h1, .inl ⟨rfl, by omega⟩⟩
      · split at hN
        · next h1 =>
          cases hk : zs[1]? with
          | none => rw [hk] at hN; simp at hN
          | some k =>
            rw [hk] at hN
            have := hby k (List.mem_of_getElem? hk)
            obtain ⟨k, rfl⟩ := Int.eq_ofNat_of_zero_le this.1
            simp only at hN
            exact ⟨by omega, 3, h1, .inr ⟨rfl, k, by omega, rfl, by omega⟩⟩
        · omega
    obtain ⟨h4, y, hy, hkind⟩ := hN2
    obtain ⟨M, rfl⟩ : ∃ M, N = M + 2 := ⟨N - 2, by omega⟩
    obtain ⟨b0, off, y', rfl, hy', hc0⟩ := hx.int (k := 0) (by omega)
    rw [hy] at hy'
    injection hy' with hy'
    subst hy'
    have hc0' : wA.cell? ⟨b0, off, none⟩ = some (.int .i64 y) := hc0
    have hb0 : b0 < wA.heap.size := by
      rcases hx.under with h | ⟨q, hq, hlt⟩
      · omega
      · simp at hq
        omega
    have hb1 : b0 < wA.heap.size + 1 := by omega
    have hb2 : b0 < wA.heap.size + 1 + 1 := by omega
    have hpt : Rd wA (some ⟨b0, off + M, none⟩) 2 (ints ((zs.drop M).take 2)) := hx.part M 2 (by omega)
    have hpb : ∀ x ∈ (zs.drop M).take 2, 0 ≤ x ∧ x ≤ 255 := fun x hx => hby x (List.mem_of_mem_drop (List.mem_of_mem_take hx))
    have hsub : (M : Int) + 2 - 2 = (M : Int) := by omega
    have hwr : IntKind.i64.wrap (M : Int) = (M : Int) := by rw [IntKind.wrap_i64]; omega
    have hle1 : (M : Int) ≤ (M : Int) + 2 := by omega
    have hle2 : (M : Int) + 2 ≤ (c : Int) := by omega
    have hle0 : (0 : Int) ≤ (M : Int) := by omega
    have g2 : decide ((M : Int) + 2 < 0) = false := by simp; omega
    have g3 : decide ((n : Int) < (M : Int) + 2) = false := by simp; omega
    have hp0 : (0 : Int) < (n : Int) := by omega
    have hp0n : 0 < n := by omega
    have hcM : ¬ c = M := by omega
    have hz2 : ((M : Int) + 2).toNat - M = 2 := by omega
    obtain ⟨P, hP⟩ : ∃ P, numOf ((zs.drop M).take 2) = P := ⟨_, rfl⟩
    replace hpb := Lib.hid hpb
    replace hby := Lib.hid hby
    replace hkind := Lib.hid hkind
    replace hN := Lib.hid hN
    replace hP := Lib.hid hP
    replace hy := Lib.hid hy
    replace hsA := Lib.hid hsA
    replace k0 := Lib.hid k0
    have hMn : M + 2 ≤ n := by omega
    clear hxN hx0 hxn
    clear g0 g1
    go_upto_region 4 with fail
    go_cut [6] (fun v wx => ∃ bb rb : Nat, v = .pointer (some ⟨bb, 0, none⟩) ∧ wA.heap.size ≤ bb ∧ wx.heap[bb]? = some (.cells #[.int .i64 y, .slice (some ⟨rb, 0, none⟩) 0 0, .string ⟨#[]⟩, .int .i64 P] 24 (0, 0)) ∧ bb ≠ rb ∧ wx.ownsRow wA.heap.size 3 1 (.slice (some ⟨rb, 0, none⟩) 0 0) 0 (ints []) ∧ Below wA.heap.size wA wx)
    case first =>
      go_region_held3 (fun w' => w'.cell? ⟨b0, off, none⟩ = some (.int .i64 y)) (go_keep) (first
        | (go_at_call 44
           refine (l1Of_any (some ⟨b0, off + M, none⟩) 2 _ ((zs.drop M).take 2) _ ?_ (by omega) hpb.out).mono ?_
           exact hpt.below (by go_grown)
           rintro e w' ⟨rfl, rfl⟩
           rw [hP.out]))
      all_goals
        go_wp2_with fail
        go_meet
        first
          | exact ⟨wA.heap.size + 1, wA.heap.size, rfl, by omega, heap_alloc_new2 wA _ _, by omega, (own_empty wA).alloc _, by go_grown⟩
          | exact ⟨wA.heap.size, wA.heap.size + 1, rfl, by omega, (heap_alloc_old (wA.alloc _) _ (by simp)).trans (heap_alloc_new wA _), by omega, by have h := own_base (own_empty (wA.alloc (.cells #[.int .i64 y, .slice (some ⟨wA.heap.size + 1, 0, none⟩) 0 0, .string ⟨#[]⟩, .int .i64 P] 24))) (B := wA.heap.size) (by simp); simp at h; exact h, by go_grown⟩
    case rest =>
      obtain ⟨bb, rb, rfl, hbb, k6, hbr, ho6, hB6⟩ := hcut
      have hx6 := hx.below hB6
      have hc6 : wc.cell? ⟨b0, off, none⟩ = some (.int .i64 y) := (hB6.cell hb0).trans hc0'
      replace k0 := Lib.hid ((hB6.block w.heap.size (by have := hsA.out; omega)).trans k0.out)
      have hB := bstep hBA hB6
      have hs6 : rb < wc.heap.size := (ho6.lt rb rfl).2
      have hrb : wA.heap.size ≤ rb := (ho6.lt rb rfl).1
      have hbs : bb < wc.heap.size := (Array.getElem?_eq_some_iff.1 k6).1
      clear hB6 hpt hx d0 d1 d2 d3 f0 f1 f2 f3 hc0 hc0'
      rcases hkind.out with ⟨rfl, hM7⟩ | ⟨rfl, k, hk, hzk, hMk⟩
      · obtain rfl : M = 5 := by omega
        have hq4 : Rd wc (some ⟨b0, off + 1, none⟩) 4 (ints ((zs.drop 1).take 4)) := hx6.part 1 4 (by omega)
        obtain ⟨b60, b61, b62, b63⟩ := box_cells k6
        have hsz6 : wA.heap.size ≤ wc.drew.heap.size := by show wA.heap.size ≤ wc.heap.size; omega
        have hle5 : (5 : Int) ≤ (c : Int) := by omega
        have hle5n : (5 : Int) ≤ (n : Int) := by omega
        have hcn : ¬ c = 1 := by omega
        replace k6 := Lib.hid k6
        go_upto_region 6 with fail
        go_region_law (
          (refine step_append_rd _ rfl _ _ rfl wA.heap.size (some ⟨rb, 0, none⟩) 0 0 [] rfl ?_ (some ⟨b0, off + 1, none⟩) 4 _ ((zs.drop 1).take 4) rfl ?_ (by omega) ?_ ?_
           · exact ho6
           · exact hq4
           · exact hsz6
           intro A7 c7 w7 ho7 hg7
           replace hg7 : World.grownBy wc.drew w7 (some rb) := hg7
           have k7 : w7.heap[bb]? = some (.cells #[.int .i64 1, .slice (some ⟨rb, 0, none⟩) 0 0, .string ⟨#[]⟩, .int .i64 P] 24 (0, 0)) := (hg7.block bb hbs (fun h => by injection h with h; omega)).trans k6.out
           obtain ⟨b70, b71, b72, b73⟩ := box_cells k7
           obtain ⟨g70, g71, g72, g73⟩ := frozen_box k7))
        have hne7 : Value.ownBlock (.slice A7 4 c7) ≠ some bb := own_apart_row ho7 k7 (by decide)
        have ho8 : (w7.setCell ⟨bb, 1, none⟩ (.slice A7 4 c7)).ownsRow wA.heap.size 3 1 (.slice A7 4 c7) 4 (ints ((zs.drop 1).take 4)) := by
          have h := own_set_ne (j := 1) (u := .slice A7 4 c7) (e := 3) (base := wA.heap.size) (n := 4) (xs := ints ((zs.drop 1).take 4)) (by simpa [ints] using ho7) hne7
          exact h
        have k8 := row_set k7 1 (.slice A7 4 c7)
        have hsw : w.heap.size < wA.heap.size := by have := hsA.out; omega
        have kw8 : (w7.setCell ⟨bb, 1, none⟩ (.slice A7 4 c7)).heap[w.heap.size]? = some (.cells #[.int .i64 0, .slice none 0 0, .string ⟨#[]⟩, .int .i64 0] 24 (0, 0)) :=
          row_other ((hg7.block w.heap.size (by show w.heap.size < wc.heap.size; omega) (fun h => by injection h with h; omega)).trans k0.out) (by omega)
        have hB8 : Below w.heap.size w (w7.setCell ⟨bb, 1, none⟩ (.slice A7 4 c7)) := below_set (bgrow (w1 := wc.drew) ⟨hB.os, hB.tape, hB.output, hB.size, hB.block⟩ hg7 fun k hk => by injection hk with hk; omega) (by omega)
        have hs8 : w.heap.size < (w7.setCell ⟨bb, 1, none⟩ (.slice A7 4 c7)).heap.size := (Array.getElem?_eq_some_iff.1 kw8).1
        have hs8b : bb < (w7.setCell ⟨bb, 1, none⟩ (.slice A7 4 c7)).heap.size := (Array.getElem?_eq_some_iff.1 k8).1
        generalize w7.setCell ⟨bb, 1, none⟩ (.slice A7 4 c7) = w8 at ho8 k8 kw8 hB8 hs8 hs8b ⊢
        have hAd : adP zs (adN zs).toNat = ⟨1, (zs.drop 1).take 4, ⟨#[]⟩, P⟩ := by
          rw [← hN.out]
          have e1 : (zs.take 5).drop 1 = (zs.drop 1).take 4 := by rw [List.drop_take]
          have e2 : (zs.take 7).drop 5 = (zs.drop 5).take 2 := by rw [List.drop_take]
          show adP zs 7 = _
          unfold adP
          rw [if_pos hy.out, e1, e2, hP.out]
        obtain ⟨r, hr⟩ : ∃ r, adV ⟨1, (zs.drop 1).take 4, ⟨#[]⟩, P⟩ = r := ⟨_, rfl⟩
        obtain ⟨b80, b81, b82, b83⟩ := box_cells k8
        replace hAd := Lib.hid hAd
        replace hr := Lib.hid hr
        clear hne7 k7 ho7 hg7 b70 b71 b72 b73 g70 g71 g72 g73 b60 b61 b62 b63 k6 k0 hq4 hc6 ho6
        go_wp2_with fail
        refine (addressValid_spec ⟨1, (zs.drop 1).take 4, ⟨#[]⟩, P⟩ A7 4 c7 _ (Rd.own ho8) (by show (0 : Nat) ≤ _; omega) _ hr.out).mono ?_
        rintro e w9 ⟨rfl, hb9⟩
        have hB9 := bstep hB8 hb9
        have ho9 := own_below ho8 hb9
        have k9 := (hb9.block bb hs8b).trans k8
        have kw9 := (hb9.block w.heap.size hs8).trans kw8
        obtain ⟨b90, b91, b92, b93⟩ := box_cells k9
        obtain ⟨d0, d1, d2, d3⟩ := box_cells kw9
        obtain ⟨f0, f1, f2, f3⟩ := frozen_box kw9
        have hnb : bb ≠ w.heap.size := by omega
        clear hb9 hB8 ho8 k8 kw8 b80 b81 b82 b83
        replace k9 := Lib.hid k9
        replace kw9 := Lib.hid kw9
        have hadO := h.out
        cases r
        case false =>
          rw [adO_none (by rw [hAd.out, hr.out]; simp)] at hadO
          simp only [Prod.mk.injEq] at hadO
          obtain ⟨rfl, rfl, rfl⟩ := hadO
          go_wp2_with fail
          refine bodyPost_ret (results_cell3 rfl _ _ w.heap.size 24 _ (0, 0) _ rfl (row_set (row_set (row_set (row_set kw9.out 0 _) 1 _) 2 _) 3 _) Tryd.underlying24 rfl (by kernel_rfl)) rfl
            ⟨none, 0, 0, rfl, by omega, (show (0 : Nat) ≤ 255 by omega), World.ownsRow_nil _ _ _ _, below_set (below_set (below_set (below_set hB9 (Nat.le_refl _)) (Nat.le_refl _)) (Nat.le_refl _)) (Nat.le_refl _)⟩
        case true =>
          rw [adO_some hp.out (by rw [← hN.out]; omega) (by rw [← hN.out, hl]; omega) (by rw [hAd.out, hr.out]), hAd.out, ← hN.out] at hadO
          simp only [Prod.mk.injEq] at hadO
          obtain ⟨rfl, hm, rfl⟩ := hadO
          obtain rfl : m = 7 := by rw [← hm]; rfl
          go_wp2_with fail
          refine bodyPost_ret (results_cell3 rfl _ _ w.heap.size 24 _ (0, 0) _ rfl (row_set (row_set (row_set (row_set kw9.out 0 _) 1 _) 2 _) 3 _) Tryd.underlying24 rfl (by kernel_rfl)) rfl
            ⟨A7, 4, c7, rfl, by omega, (show (0 : Nat) ≤ 255 by omega), own_base (own_set (own_set (own_set (own_set ho9 hsw) hsw) hsw) hsw) (Nat.le_of_lt hsw), below_set (below_set (below_set (below_set hB9 (Nat.le_refl _)) (Nat.le_refl _)) (Nat.le_refl _)) (Nat.le_refl _)⟩
      · obtain rfl : M = k + 2 := by omega
        have hq4 : Rd wc (some ⟨b0, off + 2, none⟩) k (ints ((zs.drop 2).take k)) := hx6.part 2 k (by omega)
        have hqb : ∀ x ∈ (zs.drop 2).take k, 0 ≤ x ∧ x ≤ 255 := fun x hx => hby.out x (List.mem_of_mem_drop (List.mem_of_mem_take hx))
        have hsz : (strOfNums ((zs.drop 2).take k)).size ≤ 255 := by rw [strOfNums_size]; simp; omega
        obtain ⟨b60, b61, b62, b63⟩ := box_cells k6
        obtain ⟨g60, g61, g62, g63⟩ := frozen_box k6
        have q1 : (k : Int) + 2 + 2 - 2 = (k : Int) + 2 := by omega
        have q2 : IntKind.i64.wrap ((k : Int) + 2) = (k : Int) + 2 := by rw [IntKind.wrap_i64]; omega
        have q3 : (k : Int) + 2 ≤ (c : Int) := by omega
        have q4 : (2 : Int) ≤ (k : Int) + 2 := by omega
        have q5 : (0 : Int) ≤ (k : Int) + 2 := by omega
        have hcn : ¬ c = 2 := by omega
        have hAd : adP zs (adN zs).toNat = ⟨3, [], strOfNums ((zs.drop 2).take k), P⟩ := by
          rw [← hN.out]
          have e1 : (zs.take (k + 2 + 2 - 2)).drop 2 = (zs.drop 2).take k := by rw [List.drop_take]; first | rfl | (congr 1)
          have e2 : (zs.take (k + 2 + 2)).drop (k + 2 + 2 - 2) = (zs.drop (k + 2)).take 2 := by rw [List.drop_take]; congr 1
          show adP zs (k + 2 + 2) = _
          unfold adP
          rw [if_neg (by rw [hy.out]; simp), e1, e2, hP.out]
        obtain ⟨r, hr⟩ : ∃ r, adV ⟨3, [], strOfNums ((zs.drop 2).take k), P⟩ = r := ⟨_, rfl⟩
        have hsw : w.heap.size < wA.heap.size := by have := hsA.out; omega
        replace hAd := Lib.hid hAd
        replace hr := Lib.hid hr
        replace k6 := Lib.hid k6
        replace hqb := Lib.hid hqb
        replace hzk := Lib.hid hzk
        go_wp2_with fail
        refine (l1Bytes_any (some ⟨b0, off + 2, none⟩) k _ ((zs.drop 2).take k) _ hq4 (by omega) hqb.out).mono ?_
        rintro e w7 ⟨rfl, hb7⟩
        have hB7 := bstep hB hb7
        have ho7 := own_below ho6 hb7
        have k7 := (hb7.block bb hbs).trans k6.out
        have kw7 := (hb7.block w.heap.size (by omega)).trans k0.out
        obtain ⟨b70, b71, b72, b73⟩ := box_cells k7
        obtain ⟨g70, g71, g72, g73⟩ := frozen_box k7
        have hne7 : Value.ownBlock (.slice (some ⟨rb, 0, none⟩) 0 0) ≠ some bb := own_apart_row ho7 k7 (by decide)
        replace k7 := Lib.hid k7
        go_wp2_with fail
        refine calls_gen fun w8 hw8 => ?_
        have k8 := row_set k7.out 2 (.string (strOfNums ((zs.drop 2).take k)))
        have kw8 := row_other (j := 2) (u := .string (strOfNums ((zs.drop 2).take k))) (g' := bb) kw7 (by omega)
        have ho8 := own_set_ne (j := 2) (u := .string (strOfNums ((zs.drop 2).take k))) ho7 hne7
        have hB8 := below_set (g := bb) (j := 2) (u := .string (strOfNums ((zs.drop 2).take k))) hB7 (by omega)
        rw [← hw8] at k8 kw8 ho8 hB8
        have hs8 : w.heap.size < w8.heap.size := (Array.getElem?_eq_some_iff.1 kw8).1
        have hs8b : bb < w8.heap.size := (Array.getElem?_eq_some_iff.1 k8).1
        clear hw8 hne7 k7 ho7 hb7 b70 b71 b72 b73 g70 g71 g72 g73 b60 b61 b62 b63 g60 g61 g62 g63 k6 k0 hq4 hc6 ho6 kw7 hB7
        refine (addressValid_spec ⟨3, [], strOfNums ((zs.drop 2).take k), P⟩ (some ⟨rb, 0, none⟩) 0 0 _ (Rd.own ho8) (by show ByteArray.size (strOfNums _) ≤ _; omega) _ hr.out).mono ?_
        rintro e w9 ⟨rfl, hb9⟩
        have hB9 := bstep hB8 hb9
        have ho9 := own_below ho8 hb9
        have k9 := (hb9.block bb hs8b).trans k8
        have kw9 := (hb9.block w.heap.size hs8).trans kw8
        obtain ⟨b90, b91, b92, b93⟩ := box_cells k9
        obtain ⟨d0, d1, d2, d3⟩ := box_cells kw9
        obtain ⟨f0, f1, f2, f3⟩ := frozen_box kw9
        have hnb : bb ≠ w.heap.size := by omega
        clear hb9 hB8 ho8 k8 kw8
        replace k9 := Lib.hid k9
        replace kw9 := Lib.hid kw9
        have hadO := h.out
        cases r
        case false =>
          rw [adO_none (by rw [hAd.out, hr.out]; simp)] at hadO
          simp only [Prod.mk.injEq] at hadO
          obtain ⟨rfl, rfl, rfl⟩ := hadO
          go_wp2_with fail
          refine bodyPost_ret (results_cell3 rfl _ _ w.heap.size 24 _ (0, 0) _ rfl (row_set (row_set (row_set (row_set kw9.out 0 _) 1 _) 2 _) 3 _) Tryd.underlying24 rfl (by kernel_rfl)) rfl
            ⟨none, 0, 0, rfl, by omega, (show (0 : Nat) ≤ 255 by omega), World.ownsRow_nil _ _ _ _, below_set (below_set (below_set (below_set hB9 (Nat.le_refl _)) (Nat.le_refl _)) (Nat.le_refl _)) (Nat.le_refl _)⟩
        case true =>
          rw [adO_some hp.out (by rw [← hN.out]; omega) (by rw [← hN.out, hl]; omega) (by rw [hAd.out, hr.out]), hAd.out, ← hN.out] at hadO
          simp only [Prod.mk.injEq] at hadO
          obtain ⟨rfl, hm, rfl⟩ := hadO
          obtain rfl : m = k + 2 + 2 := by rw [← hm]; rfl
          go_wp2_with fail
          refine bodyPost_ret (results_cell3 rfl _ _ w.heap.size 24 _ (0, 0) _ rfl (row_set (row_set (row_set (row_set kw9.out 0 _) 1 _) 2 _) 3 _) Tryd.underlying24 rfl (by kernel_rfl)) rfl
            ⟨some ⟨rb, 0, none⟩, 0, 0, rfl, by omega, (by show ByteArray.size (strOfNums _) ≤ _; omega), own_base (own_set (own_set (own_set (own_set ho9 hsw) hsw) hsw) hsw) (Nat.le_of_lt hsw), below_set (below_set (below_set (below_set hB9 (Nat.le_refl _)) (Nat.le_refl _)) (Nat.le_refl _)) (Nat.le_refl _)⟩
end Go.Proofs.YtjlgkepbflcefaaDoor
