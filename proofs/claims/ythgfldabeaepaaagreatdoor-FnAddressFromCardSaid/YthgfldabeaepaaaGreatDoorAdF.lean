/- The address of a text, in the reference. No condition. -/
import Derived.Test.YthgfldabeaepaaaGreatDoorAdP
namespace Go.Proofs.YthgfldabeaepaaaGreatDoor
open Go.RowKit
set_option maxRecDepth 20000 in
set_option maxHeartbeats 2000000 in
theorem l3Of_any (s : ByteArray) (p : Int) (w : World) (hs : s.size ≤ 2000000) :
    Calls Tryz.prog 19 #[.string s, .int .i64 p] w (RetAd w (adH (lets s) p)) := by
  obtain ⟨q, b, hf⟩ : ∃ q b, quadF (lets s) = (q, b) := ⟨_, _, rfl⟩
  obtain ⟨a, ha⟩ : ∃ a, adH (lets s) p = a := ⟨_, rfl⟩
  rw [ha]
  replace ha := Lib.hid ha
  go_enter Tryz.func19, Tryz.ntmps19
  go_wp2_with fail
  refine calls_gen fun wA hwA => ?_
  have k0 : wA.heap[w.heap.size]? = some (.cells #[.int .i64 0, .slice none 0 0, .string ⟨#[]⟩, .int .i64 0] 26 (0, 0)) := by
    rw [hwA]
    exact heap_alloc_new w _
  have hBA : Below w.heap.size w wA := by rw [hwA]; go_grown
  have hsA : wA.heap.size = w.heap.size + 1 := by rw [hwA]; simp
  clear hwA
  refine (quadFrom_spec s _ hs q b hf).mono ?_
  rintro e w1 ⟨A, n, c, rfl, ho, hb1⟩
  have hB1 := bstep hBA hb1
  replace k0 := (hb1.block _ (by omega)).trans k0
  have hs1 := hb1.size
  clear hb1 hBA
  cases b with
  | true =>
    have e1 := ha.out
    rw [adH_of_quad hf] at e1
    subst e1
    obtain ⟨c0, c1, c2, c3⟩ := box_cells k0
    obtain ⟨f0, f1, f2, f3⟩ := frozen_four k0
    replace hf := Lib.hid hf
    replace k0 := Lib.hid k0
    go_wp2_with fail
    refine bodyPost_ret (v := adVal ⟨1, q, ⟨#[]⟩, p⟩ A n c) (results_cell_row rfl _ _ w.heap.size 26 _ (0, 0) _ rfl (row_set (row_set (row_set (row_set k0.out 0 _) 1 _) 2 _) 3 _) Tryz.underlying26 rfl (by kernel_rfl)) rfl ?_
    exact ⟨A, n, c, rfl, own_base (own_set (own_set (own_set (own_set ho (by omega)) (by omega)) (by omega)) (by omega)) (by omega), below_set (below_set (below_set (below_set hB1 (Nat.le_refl _)) (Nat.le_refl _)) (Nat.le_refl _)) (Nat.le_refl _)⟩
  | false =>
    have e1 := ha.out
    rw [adH_of_name hf, txt_lets] at e1
    subst e1
    obtain ⟨W4, hW4⟩ : ∃ W4, W4 = (((w1.setCell ⟨w.heap.size, 0, none⟩ (.int .i64 3)).setCell ⟨w.heap.size, 1, none⟩ (.slice (some ⟨w1.heap.size, 0, none⟩) 0 0)).setCell ⟨w.heap.size, 2, none⟩ (.string s)).setCell ⟨w.heap.size, 3, none⟩ (.int .i64 p) := ⟨_, rfl⟩
    have k4 := row_set (row_set (row_set (row_set k0 0 (.int .i64 3)) 1 (.slice (some ⟨w1.heap.size, 0, none⟩) 0 0)) 2 (.string s)) 3 (.int .i64 p)
    rw [← hW4] at k4
    have s4 : W4.heap.size = w1.heap.size := by rw [hW4]; simp [World.setCell]
    have hB4 : Below w.heap.size w W4 := by
      rw [hW4]
      exact below_set (below_set (below_set (below_set hB1 (Nat.le_refl _)) (Nat.le_refl _)) (Nat.le_refl _)) (Nat.le_refl _)
    have ho4 := own_empty W4
    rw [s4] at ho4
    have k5 := (heap_alloc_old W4 (.cells #[] 3) (by omega)).trans k4
    have hB5 := hB4.alloc (by omega) (.cells #[] 3)
    obtain ⟨c0, c1, c2, c3⟩ := box_cells k0
    obtain ⟨f0, f1, f2, f3⟩ := frozen_four k0
    have hlt : w.heap.size < w1.heap.size := by omega
    replace hf := Lib.hid hf
    replace hW4 := Lib.hid hW4
    replace k5 := Lib.hid k5
    clear k0 k4
    go_wp2_with fail
    have hW5 := hW4.out
    rw [← hW5]
    clear hW5 hW4
    refine bodyPost_ret (v := adVal ⟨3, [], s, p⟩ (some ⟨w1.heap.size, 0, none⟩) 0 0) (results_cell_row rfl _ _ w.heap.size 26 _ (0, 0) _ rfl k5.out Tryz.underlying26 rfl (by kernel_rfl)) rfl ?_
    exact ⟨_, 0, 0, rfl, own_base ho4 (by omega), hB5⟩
theorem adF_two {l h t : List UInt8} (hp : pieces 58 l = [h, t]) : adF l = if adV (adH h (num5 t)) && adT (adH h (num5 t)) == l then (adH h (num5 t), true) else (Ad.none, false) := by
  unfold adF
  rw [hp]
theorem adF_else {l : List UInt8} (hp : (pieces 58 l).length ≠ 2) : adF l = (Ad.none, false) := by
  unfold adF
  split
  · rename_i h t e
    rw [e] at hp
    simp at hp
  · rfl
set_option maxRecDepth 20000 in
set_option maxHeartbeats 16000000 in
theorem addressFrom_spec (s : ByteArray) (w : World) (hs : s.size ≤ 2000000) (a : Ad) (b : Bool) (h : adF (lets s) = (a, b)) :
    Calls Tryz.prog 6 #[.string s] w (RetAF w a b) := by
  have hno := adF_no a h
  replace h := Lib.hid h
  go_enter Tryz.func6, Tryz.ntmps6
  go_wp2_with fail
  refine calls_gen fun wA hwA => ?_
  have k0 : wA.heap[w.heap.size]? = some (.cells #[.int .i64 0, .slice none 0 0, .string ⟨#[]⟩, .int .i64 0] 26 (0, 0)) := by
    rw [hwA]
    exact heap_alloc_new w _
  have hBA : Below w.heap.size w wA := by rw [hwA]; go_grown
  have hsA : wA.heap.size = w.heap.size + 1 := by rw [hwA]; simp
  clear hwA
  refine (l2Cut_any s 58 58 rfl _ (by omega)).mono ?_
  rintro e w1 ⟨A, n, cap, ps, rfl, hps, ho1, hb1⟩
  have hB1 := bstep hBA hb1
  replace k0 := (hb1.block _ (by omega)).trans k0
  have hr1 := Rd.own ho1
  have hs1 := hb1.size
  clear hb1 hBA ho1
  have hln := hr1.slen
  by_cases h2 : n = 2
  case neg =>
    have hfin := adF_else (l := lets s) (by rw [← hps, List.length_map, hln]; exact h2)
    rw [h.out] at hfin
    injection hfin with e1 e2
    subst e1 e2
    have hne : ((n : Int) == 2) = false := by rw [beq_eq_false_iff_ne]; omega
    have hne' : ((n : Int) != 2) = true := by simp; omega
    obtain ⟨c0, c1, c2, c3⟩ := box_cells k0
    obtain ⟨f0, f1, f2, f3⟩ := frozen_four k0
    replace h2 := Lib.hid h2
    replace k0 := Lib.hid k0
    replace hln := Lib.hid hln
    replace hps := Lib.hid hps
    go_wp2_with fail
    refine bodyPost_ret (results_cell2 rfl _ _ w.heap.size 26 _ (0, 0) _ rfl (row_set (row_set (row_set (row_set k0.out 0 _) 1 _) 2 _) 3 _) Tryz.underlying26 rfl (by kernel_rfl)) rfl ?_
    exact ⟨none, 0, 0, rfl, by omega, hno.2, World.ownsRow_nil _ _ _ _, below_set (below_set (below_set (below_set hB1 (Nat.le_refl _)) (Nat.le_refl _)) (Nat.le_refl _)) (Nat.le_refl _)⟩
  subst h2
  obtain ⟨p0, p1, rfl⟩ : ∃ p0 p1, ps = [p0, p1] := by
    match ps, hln with
    | [p0, p1], _ => exact ⟨p0, p1, rfl⟩
  have hp0 := piece_size (k := 0) hps rfl
  have hp1 := piece_size (k := 1) hps rfl
  have hfin := adF_two (l := lets s) hps.symm
  rw [h.out] at hfin
  obtain ⟨bk, off, rfl, hcl⟩ := hr1.2.2 (by omega)
  have d0 : w1.cell? ⟨bk, off, none⟩ = some (.string p0) := hcl 0 _ rfl
  have d1 := hcl 1 (.string p1) rfl
  have hbk := World.block_lt_of_cell? w1 _ d0
  obtain ⟨x, hx⟩ : ∃ x, num5 (lets p1) = x := ⟨_, rfl⟩
  rw [hx] at hfin
  replace hfin := Lib.hid hfin
  replace hps := Lib.hid hps
  have i0 : (0 : Int) < 2 := by omega
  have i1 : (1 : Int) < 2 := by omega
  clear hcl hr1 hln h
  go_wp2_with fail
  obtain ⟨a3, ha3⟩ : ∃ a3, adH (lets p0) x = a3 := ⟨_, rfl⟩
  have q0 : ∀ wz : World, Calls Tryz.prog 20 #[.string p1] wz fun e w' => e = .returned (.int .i64 x) ∧ wz = w' := fun wz => by
    rw [← hx]
    exact l2Number_any p1 wz (by omega)
  have q1 : ∀ wz : World, Calls Tryz.prog 19 #[.string p0, .int .i64 x] wz (RetAd wz a3) := fun wz => by
    rw [← ha3]
    exact l3Of_any p0 x wz (by omega)
  rw [ha3] at hfin
  have hn3 : a3.name.size ≤ 2000000 := by
    have := adH_size (lets p0) x
    rw [ha3, lets_length] at this
    omega
  replace q0 := Lib.hid q0
  replace q1 := Lib.hid q1
  clear hx ha3 hp0 hp1
  have hd0 : w1.drew.cell? ⟨bk, off, none⟩ = some (.string p0) := d0
  go_cut [5] (fun v wx => ∃ g A n c, v = .pointer (some ⟨g, 0, none⟩) ∧ w1.heap.size ≤ g ∧ wx.heap[g]? = some (.cells #[.int .i64 a3.kind, .slice A n c, .string a3.name, .int .i64 a3.port] 26 (0, 0)) ∧ wx.ownsRow w1.heap.size 3 1 (.slice A n c) n (ints a3.quad) ∧ Below w1.heap.size w1 wx)
  case first =>
    go_region_with (first
      | (go_at_call 20
         refine (q0.out _).mono ?_
         rintro e wn ⟨rfl, rfl⟩)
      | (go_at_call 19
         refine (q1.out _).mono ?_
         rintro e wm ⟨A3, n3, c3, rfl, ho3, hb3⟩
         try
           (have kb : wm.heap[w1.heap.size]? = some (.cells #[.int .i64 0, .slice none 0 0, .string ⟨#[]⟩, .int .i64 0] 26 (0, 0)) := (hb3.block w1.heap.size (by simp)).trans (by exact heap_alloc_new w1 _)
            obtain ⟨m0, m1, m2, m3⟩ := box_cells kb
            obtain ⟨o0, o1, o2, o3⟩ := frozen_four kb)))
    all_goals
      go_wp2_with fail
      go_meet
      have hBm : Below w1.heap.size w1 wm := by
        first
          | exact hb3
          | exact below_drew hb3
          | exact bstep (by go_grown) hb3
          | exact bstep (by go_grown) (below_drew hb3)
      have hom : wm.ownsRow w1.heap.size 3 1 (.slice A3 n3 c3) n3 (ints a3.quad) := by
        first
          | exact ho3
          | exact own_base ho3 (by simp)
          | exact own_base ho3 (by show w1.heap.size ≤ (w1.alloc _).heap.size; simp)
      first
        | (have kb1 := kb
           have hlb : w1.heap.size < (w1.alloc (.cells #[.int .i64 0, .slice none 0 0, .string ⟨#[]⟩, .int .i64 0] 26)).heap.size := by simp
           exact ⟨w1.heap.size, A3, n3, c3, rfl, Nat.le_refl _, row_set (row_set (row_set (row_set kb1 0 _) 1 _) 2 _) 3 _, own_base (own_set (own_set (own_set (own_set ho3 hlb) hlb) hlb) hlb) (Nat.le_of_lt hlb), below_set (below_set (below_set (below_set hBm (Nat.le_refl _)) (Nat.le_refl _)) (Nat.le_refl _)) (Nat.le_refl _)⟩)
        | exact ⟨wm.heap.size, A3, n3, c3, rfl, hBm.size, heap_alloc_new wm _, hom.alloc _, hBm.alloc hBm.size _⟩
  case rest =>
    obtain ⟨g, A, n, c, rfl, hge, kg, ho, hb⟩ := hcut
    have hB2 := bstep hB1 hb
    have k02 := (hb.block _ (by omega)).trans k0
    have hgl := (Array.getElem?_eq_some_iff.1 kg).1
    have hnl := (Rd.own ho).ilen
    clear hb k0 hB1 d0 d1 hd0 q0 q1 i0 i1 hbk
    obtain ⟨r, hr⟩ : ∃ r, adV a3 = r := ⟨_, rfl⟩
    obtain ⟨c0, c1, c2, c3⟩ := box_cells kg
    replace kg := Lib.hid kg
    replace hr := Lib.hid hr
    replace k02 := Lib.hid k02
    replace hno := Lib.hid hno
    go_wp2_with fail
    refine (addressValid_spec a3 A n c _ (Rd.own ho) (by omega) _ hr.out).mono ?_
    rintro e w4 ⟨rfl, hb4⟩
    have kg4 := (hb4.block _ hgl).trans kg.out
    have k04 := (hb4.block _ (by omega)).trans k02.out
    have ho4 := own_below ho hb4
    have hB4 := bstep hB2 hb4
    have hs4 := hb4.size
    clear hb4 hB2 ho kg k02 c0 c1 c2 c3
    cases r with
    | false =>
      have hf := hfin.out
      rw [hr.out] at hf
      simp only [Bool.false_and, Bool.false_eq_true, if_false] at hf
      injection hf with e1 e2
      subst e1 e2
      obtain ⟨c0, c1, c2, c3⟩ := box_cells k04
      obtain ⟨f0, f1, f2, f3⟩ := frozen_four k04
      replace k04 := Lib.hid k04
      clear kg4
      go_wp2_with fail
      refine bodyPost_ret (results_cell2 rfl _ _ w.heap.size 26 _ (0, 0) _ rfl (row_set (row_set (row_set (row_set k04.out 0 _) 1 _) 2 _) 3 _) Tryz.underlying26 rfl (by kernel_rfl)) rfl ?_
      exact ⟨none, 0, 0, rfl, by omega, hno.out.2, World.ownsRow_nil _ _ _ _, below_set (below_set (below_set (below_set hB4 (Nat.le_refl _)) (Nat.le_refl _)) (Nat.le_refl _)) (Nat.le_refl _)⟩
    | true =>
      have hts : txt (adS a3) = txt (adT a3) := congrArg txt (if_pos hr.out)
      obtain ⟨T, hT⟩ : ∃ T, txt (adT a3) = T := ⟨_, rfl⟩
      rw [hT] at hts
      replace hT := Lib.hid hT
      replace hts := Lib.hid hts
      obtain ⟨c0, c1, c2, c3⟩ := box_cells kg4
      replace kg4 := Lib.hid kg4
      replace k04 := Lib.hid k04
      go_wp2_with fail
      refine (addressText_spec a3 A n c _ (Rd.own ho4) (by omega)).mono ?_
      rw [hts.out]
      rintro e w5 ⟨rfl, hb5⟩
      have kg5 := (hb5.block _ (by omega)).trans kg4.out
      have k05 := (hb5.block _ (by omega)).trans k04.out
      have ho5 := own_below ho4 hb5
      have hB5 := bstep hB4 hb5
      have hs5 := hb5.size
      clear hb5 hB4 ho4 kg4 k04 c0 c1 c2 c3
      have hf := hfin.out
      rw [hr.out, Bool.true_and] at hf
      obtain ⟨c0, c1, c2, c3⟩ := box_cells k05
      obtain ⟨f0, f1, f2, f3⟩ := frozen_four k05
      obtain ⟨m0, m1, m2, m3⟩ := box_cells kg5
      replace k05 := Lib.hid k05
      replace kg5 := Lib.hid kg5
      by_cases ht : adT a3 = lets s
      · have hTs : T = s := (hT.out.symm.trans (congrArg txt ht)).trans (txt_lets s)
        subst hTs
        rw [if_pos (by rw [ht]; simp)] at hf
        injection hf with e1 e2
        subst e1 e2
        replace ht := Lib.hid ht
        go_wp2_with fail
        refine bodyPost_ret (results_cell2 rfl _ _ w.heap.size 26 _ (0, 0) _ rfl (row_set (row_set (row_set (row_set k05.out 0 _) 1 _) 2 _) 3 _) Tryz.underlying26 rfl (by kernel_rfl)) rfl ?_
        exact ⟨A, n, c, rfl, by rw [← hnl]; exact hno.out.1, hno.out.2, own_base (own_set (own_set (own_set (own_set ho5 (by omega)) (by omega)) (by omega)) (by omega)) (by omega), below_set (below_set (below_set (below_set hB5 (Nat.le_refl _)) (Nat.le_refl _)) (Nat.le_refl _)) (Nat.le_refl _)⟩
      · have hTs : T ≠ s := fun hc => ht (by rw [← hc, ← hT.out, lets_txt])
        have ht2 : (T.toList == s.toList) = false := by
          rw [beq_eq_false_iff_ne, text_toList, text_toList]
          exact fun hc => hTs (lets_inj hc)
        rw [if_neg (by simpa using ht)] at hf
        injection hf with e1 e2
        subst e1 e2
        replace ht := Lib.hid ht
        replace hTs := Lib.hid hTs
        go_wp2_with fail
        refine bodyPost_ret (results_cell2 rfl _ _ w.heap.size 26 _ (0, 0) _ rfl (row_set (row_set (row_set (row_set k05.out 0 _) 1 _) 2 _) 3 _) Tryz.underlying26 rfl (by kernel_rfl)) rfl ?_
        exact ⟨none, 0, 0, rfl, by omega, hno.out.2, World.ownsRow_nil _ _ _ _, below_set (below_set (below_set (below_set hB5 (Nat.le_refl _)) (Nat.le_refl _)) (Nat.le_refl _)) (Nat.le_refl _)⟩
end Go.Proofs.YthgfldabeaepaaaGreatDoor
