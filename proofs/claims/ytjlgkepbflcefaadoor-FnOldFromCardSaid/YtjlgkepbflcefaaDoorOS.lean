/- The request that bytes begin with, in the reference. No condition. -/
import Derived.Test.YtjlgkepbflcefaaDoorOF
import Derived.Test.YtjlgkepbflcefaaDoorEnd
namespace Go.Proofs.YtjlgkepbflcefaaDoor
open Go.RowKit
theorem exit_ret {K : Act → World → Prop} {Q : Exit → Act → World → Prop} {a : Act} {w : World} (h : Q .ret a w) : Exit.then K Q .ret a w := h
theorem odO_nine {zs : List Int} (h : 9 ≤ zs.length) : ∃ v c p0 p1 a b g d t, zs = v :: c :: p0 :: p1 :: a :: b :: g :: d :: t ∧ t.length + 8 = zs.length := by
  match zs, h with
  | v :: c :: p0 :: p1 :: a :: b :: g :: d :: t, _ => exact ⟨v, c, p0, p1, a, b, g, d, t, rfl, by simp⟩
theorem odO_short {zs : List Int} (h : zs.length < 9) : odO zs = (Od.none, 0, false) := by
  unfold odO
  split
  · rename_i v c p0 p1 a b g d t
    obtain rfl : t = [] := List.eq_nil_of_length_eq_zero (by simp at h; omega)
    split
    · rfl
    · rfl
  · rfl
theorem cut0_yes {t : List Int} (h : (upTo0 t).length < t.length) : cut0 t = some (upTo0 t, t.drop ((upTo0 t).length + 1)) := by unfold cut0; rw [if_pos h]
theorem cut0_no {t : List Int} (h : ¬ (upTo0 t).length < t.length) : cut0 t = none := by unfold cut0; rw [if_neg h]
set_option maxRecDepth 20000 in
set_option maxHeartbeats 16000000 in
theorem oldFrom_spec (A : Option Addr) (n c : Nat) (zs : List Int) (w : World) (hx : Rd w A n (ints zs)) (hc : n ≤ c) (hn : n ≤ 4000000) (x : Od) (m : Nat) (b : Bool) (h : odO zs = (x, m, b)) :
    Calls Tryd.prog 37 #[.slice A n c] w (RetOO w x m b) := by
  have hl := hx.ilen
  replace h := Lib.hid h
  obtain ⟨p, hp⟩ : ∃ p, bv zs = p := ⟨_, rfl⟩
  replace hp := Lib.hid hp
  go_enter Tryd.func37, Tryd.ntmps37
  go_wp2_with fail
  refine calls_gen fun w1 hw1 => ?_
  have k0 : w1.heap[w.heap.size]? = some (.cells #[.int .i64 0, .int .i64 0, .slice none 0 0, .string ⟨#[]⟩, .int .i64 0, .string ⟨#[]⟩] 39 (0, 0)) := by
    rw [hw1]
    exact heap_alloc_new w _
  have hB1 : Below w.heap.size w w1 := by rw [hw1]; go_grown
  have hs1 : w1.heap.size = w.heap.size + 1 := by rw [hw1]; simp
  clear hw1
  replace hx := hx.below hB1
  have hw1 : w.heap.size < w1.heap.size := by omega
  obtain ⟨d0, d1, d2, d3, d4, d5⟩ := six_cells k0
  obtain ⟨f0, f1, f2, f3, f4, f5⟩ := six_frozen k0
  replace k0 := Lib.hid k0
  replace hs1 := Lib.hid hs1
  refine (bytesValid_spec A n c zs _ hx _ hp.out).mono ?_
  rintro e w2 ⟨rfl, rfl⟩
  cases p
  case false =>
    have hno : odO zs = (Od.none, 0, false) := by
      unfold odO
      split
      · rw [hp.out]
        rfl
      · rfl
    rw [h.out] at hno
    simp only [Prod.mk.injEq] at hno
    obtain ⟨rfl, rfl, rfl⟩ := hno
    clear hl
    go_wp2_with fail
    refine bodyPost_ret (results_cell3 rfl _ _ w.heap.size 39 _ (0, 0) _ rfl (row_set6 k0.out _ _ _ _ _ _) Tryd.underlying39 rfl (by kernel_rfl)) rfl
      ⟨none, 0, 0, rfl, by omega, ⟨(show (0 : Nat) ≤ 255 by omega), (show (0 : Nat) ≤ 255 by omega)⟩, World.ownsRow_nil _ _ _ _, below_set6 hB1 (Nat.le_refl _) _ _ _ _ _ _⟩
  case true =>
  have hbv := bv_true.1 hp.out
  rw [hl] at hbv
  obtain ⟨hn120, hby⟩ := hbv
  replace hby := Lib.hid hby
  by_cases h9 : n < 9
  case pos =>
    have hno : odO zs = (Od.none, 0, false) := by
      exact odO_short (by omega)
    rw [h.out] at hno
    simp only [Prod.mk.injEq] at hno
    obtain ⟨rfl, rfl, rfl⟩ := hno
    have g9 : decide ((n : Int) < 9) = true := by simp; omega
    clear hl h9
    go_wp2_with fail
    refine bodyPost_ret (results_cell3 rfl _ _ w.heap.size 39 _ (0, 0) _ rfl (row_set6 k0.out _ _ _ _ _ _) Tryd.underlying39 rfl (by kernel_rfl)) rfl
      ⟨none, 0, 0, rfl, by omega, ⟨(show (0 : Nat) ≤ 255 by omega), (show (0 : Nat) ≤ 255 by omega)⟩, World.ownsRow_nil _ _ _ _, below_set6 hB1 (Nat.le_refl _) _ _ _ _ _ _⟩
  case neg =>
  have g9 : decide ((n : Int) < 9) = false := by simp; omega
  obtain ⟨v, cm, p0, p1, qa, qb, qg, qd, t, hzs, htl⟩ := odO_nine (zs := zs) (by omega)
  subst hzs
  rw [hl] at htl
  obtain ⟨b0, off, rfl, hcl⟩ := hx.cells (by omega)
  have hc0 : w1.cell? ⟨b0, off, none⟩ = some (.int .i64 v) := hcl 0 v rfl
  have hc1 := hcl 1 cm rfl
  have hc4 := hcl 4 qa rfl
  have hc5 := hcl 5 qb rfl
  have hc6 := hcl 6 qg rfl
  have hc7 := hcl 7 qd rfl
  have i0 : (0 : Int) < (n : Int) := by omega
  have i1 : (1 : Int) < (n : Int) := by omega
  have i4 : (4 : Int) < (n : Int) := by omega
  have i5 : (5 : Int) < (n : Int) := by omega
  have i6 : (6 : Int) < (n : Int) := by omega
  have i7 : (7 : Int) < (n : Int) := by omega
  have j1 : 1 < n := by omega
  have hb0 : b0 < w1.heap.size := World.block_lt_of_cell? w1 _ hc0
  clear hcl
  by_cases hv : v = 4
  case neg =>
    have hno : odO (v :: cm :: p0 :: p1 :: qa :: qb :: qg :: qd :: t) = (Od.none, 0, false) := by
      unfold odO
      simp only
      rw [show (v == 4) = false by simpa using hv, Bool.and_false]
      rfl
    rw [h.out] at hno
    simp only [Prod.mk.injEq] at hno
    obtain ⟨rfl, rfl, rfl⟩ := hno
    have g4 : (v != 4) = true := by simpa using hv
    clear hl hv
    go_wp2_with fail
    refine bodyPost_ret (results_cell3 rfl _ _ w.heap.size 39 _ (0, 0) _ rfl (row_set6 k0.out _ _ _ _ _ _) Tryd.underlying39 rfl (by kernel_rfl)) rfl
      ⟨none, 0, 0, rfl, by omega, ⟨(show (0 : Nat) ≤ 255 by omega), (show (0 : Nat) ≤ 255 by omega)⟩, World.ownsRow_nil _ _ _ _, below_set6 hB1 (Nat.le_refl _) _ _ _ _ _ _⟩
  case pos =>
  subst hv
  have g4 : ((4 : Int) != 4) = false := rfl
  have hend : endI (4 :: cm :: p0 :: p1 :: qa :: qb :: qg :: qd :: t) 8 = if (upTo0 t).length < t.length then ((8 + (upTo0 t).length : Nat) : Int) else -1 := by
    unfold endI
    have e : List.drop 8 (4 :: cm :: p0 :: p1 :: qa :: qb :: qg :: qd :: t) = t := rfl
    rw [e]
    have e2 : (8 + (upTo0 t).length < (4 :: cm :: p0 :: p1 :: qa :: qb :: qg :: qd :: t).length) = ((upTo0 t).length < t.length) := by simp; omega
    simp only [e2]
  replace hend := Lib.hid hend
  go_wp2_with fail
  refine (l4End_any (some ⟨b0, off, none⟩) n c _ 8 _ hx (by omega) (by omega)).mono ?_
  rintro e w2 ⟨rfl, rfl⟩
  rw [hend.out]
  by_cases hu : (upTo0 t).length < t.length
  case neg =>
    rw [if_neg hu]
    have hno : odO (4 :: cm :: p0 :: p1 :: qa :: qb :: qg :: qd :: t) = (Od.none, 0, false) := by
      unfold odO
      simp only
      rw [hp.out, cut0_no hu]
      rfl
    rw [h.out] at hno
    simp only [Prod.mk.injEq] at hno
    obtain ⟨rfl, rfl, rfl⟩ := hno
    clear hl
    go_wp2_with fail
    refine bodyPost_ret (results_cell3 rfl _ _ w.heap.size 39 _ (0, 0) _ rfl (row_set6 k0.out _ _ _ _ _ _) Tryd.underlying39 rfl (by kernel_rfl)) rfl
      ⟨none, 0, 0, rfl, by omega, ⟨(show (0 : Nat) ≤ 255 by omega), (show (0 : Nat) ≤ 255 by omega)⟩, World.ownsRow_nil _ _ _ _, below_set6 hB1 (Nat.le_refl _) _ _ _ _ _ _⟩
  case pos =>
  rw [if_pos hu]
  have hcut := cut0_yes hu
  obtain ⟨u, hue⟩ : ∃ u, u = upTo0 t := ⟨_, rfl⟩
  rw [← hue] at hcut hu
  rw [← hue]
  have hut : t.take u.length = u := by rw [hue]; exact upTo0_take t
  obtain ⟨E, hE⟩ : ∃ E, E = 8 + u.length := ⟨_, rfl⟩
  rw [← hE]
  have hE8 : E - 8 = u.length := by omega
  have hEn : E < n := by omega
  have hE8' : 8 ≤ E := by omega
  replace hue := Lib.hid hue
  replace hut := Lib.hid hut
  have hcut' := Lib.hid hcut
  clear hcut
  have hrU : Rd w1 (some ⟨b0, off + 8, none⟩) (E - 8) (ints u) := by
    have h1 := hx.part 8 (E - 8) (by omega)
    have e : (List.drop 8 (4 :: cm :: p0 :: p1 :: qa :: qb :: qg :: qd :: t)).take (E - 8) = u := by
      rw [hE8]
      exact hut.out
    rwa [e] at h1
  have hbU : ∀ y ∈ u, 0 ≤ y ∧ y ≤ 255 := by
    intro y hy
    refine hby.out y ?_
    have : y ∈ t := by
      rw [← hut.out] at hy
      exact List.mem_of_mem_take hy
    simp [this]
  have hszU : (strOfNums u).size ≤ 120 := by rw [strOfNums_size]; omega
  have hrQ : Rd w1 (some ⟨b0, off + 4, none⟩) 4 (ints [qa, qb, qg, qd]) := hx.part 4 4 (by omega)
  have hrP : Rd w1 (some ⟨b0, off + 2, none⟩) 2 (ints [p0, p1]) := hx.part 2 2 (by omega)
  have hbP : ∀ y ∈ [p0, p1], 0 ≤ y ∧ y ≤ 255 := by
    intro y hy
    refine hby.out y ?_
    simp only [List.mem_cons, List.not_mem_nil, or_false] at hy
    rcases hy with rfl | rfl <;> simp
  obtain ⟨P, hP⟩ : ∃ P, numOf [p0, p1] = P := ⟨_, rfl⟩
  replace hbU := Lib.hid hbU
  replace hbP := Lib.hid hbP
  replace hP := Lib.hid hP
  replace hE := Lib.hid hE
  have e8c : (E : Int) ≤ (c : Int) := by omega
  have e8n : (8 : Int) ≤ (E : Int) := by omega
  have ec8 : ¬ c = 8 := by omega
  have ec4 : ¬ c = 4 := by omega
  have ec2 : ¬ c = 2 := by omega
  have e4c : (4 : Int) ≤ (c : Int) := by omega
  have e8c' : (8 : Int) ≤ (c : Int) := by omega
  have gE : decide ((E : Int) < 0) = false := by simp
  replace hE8 := Lib.hid hE8
  clear hl
  go_upto_region 6 with fail
  go_cut [6] (fun v wx => ∃ bx : Nat, v = .pointer (some ⟨bx, 0, none⟩) ∧ w1.heap.size ≤ bx ∧ wx.heap[bx]? = some (.cells #[.int .i64 cm, .int .i64 0, .slice none 0 0, .string ⟨#[]⟩, .int .i64 0, .string (strOfNums u)] 39 (0, 0)) ∧ Below w1.heap.size w1 wx)
  case first =>
    have hb0a : b0 < w1.heap.size + 1 := by omega
    have hnb : b0 ≠ w1.heap.size := by omega
    go_region_held3 (fun w' => w'.cell? ⟨b0, off + 1, none⟩ = some (.int .i64 cm)) (first | (with_reducible exact sn) | (with_reducible exact hc1) | (with_reducible exact cell_set6d sn hnb) | (with_reducible exact cell_set6 sn hnb) | go_keep) (first
      | (go_at_call 45
         refine (l1Bytes_any (some ⟨b0, off + 8, none⟩) (E - 8) _ u _ ?_ (by omega) hbU.out).mono ?_
         exact hrU.below (by go_grown)
         rintro e wn ⟨rfl, hbn⟩
         have hBn : Below w1.heap.size w1 wn := bstep (by go_grown) hbn
         have hsn : w1.heap.size ≤ wn.heap.size := hBn.size
         have sn : wn.cell? ⟨b0, off + 1, none⟩ = some (.int .i64 cm) := (hBn.cell hb0).trans hc1
         have hnn : b0 < wn.heap.size := by omega
         try
           (have kb : wn.heap[w1.heap.size]? = some (.cells #[.int .i64 0, .int .i64 0, .slice none 0 0, .string ⟨#[]⟩, .int .i64 0, .string ⟨#[]⟩] 39 (0, 0)) := (hbn.block w1.heap.size (by simp)).trans (by exact heap_alloc_new w1 _)
            obtain ⟨y0, y1, y2, y3, y4, y5⟩ := six_cells kb
            obtain ⟨z0, z1, z2, z3, z4, z5⟩ := six_frozen kb
            replace kb := Lib.hid kb)))
    all_goals
      go_wp2_with fail
      go_meet
      first
        | exact ⟨_, rfl, hsn, heap_alloc_new wn _, hBn.alloc hsn _⟩
        | exact ⟨_, rfl, hsn, heap_alloc_new wn _, (hBn.alloc hsn _).drew⟩
        | exact ⟨_, rfl, Nat.le_refl _, row_set6 kb.out _ _ _ _ _ _, below_set6 hBn (Nat.le_refl _) _ _ _ _ _ _⟩
  case rest =>
  obtain ⟨bx, rfl, hbx, kx, hBc⟩ := hcut
  obtain ⟨w2, rfl⟩ : ∃ w2 : World, w2 = wc := ⟨_, rfl⟩
  have hs2 := hBc.size
  have hB2 := bstep hB1 hBc
  replace k0 := Lib.hid ((hBc.block _ hw1).trans k0.out)
  replace hx := hx.below hBc
  replace hrQ := hrQ.below hBc
  replace hrP := hrP.below hBc
  replace hc4 := (hBc.cell hb0).trans hc4
  replace hc5 := (hBc.cell hb0).trans hc5
  replace hc6 := (hBc.cell hb0).trans hc6
  replace hc7 := (hBc.cell hb0).trans hc7
  have hbx2 : bx < w2.heap.size := (Array.getElem?_eq_some_iff.1 kx).1
  have hb02 : b0 < w2.heap.size := by omega
  have hbb : b0 ≠ bx := by omega
  have hw2 : w.heap.size < w2.heap.size := by omega
  clear hrU hc0 hc1 d0 d1 d2 d3 d4 d5 f0 f1 f2 f3 f4 f5 hBc
  replace kx := Lib.hid kx
  go_upto_region 7 with fail
  go_cut [] (fun wx => ∃ A7 c7, wx.ownsRow w2.heap.size 3 1 (.slice A7 4 c7) 4 (ints [qa, qb, qg, qd]) ∧ wx.heap[bx]? = some (.cells #[.int .i64 cm, .int .i64 1, .slice A7 4 c7, .string ⟨#[]⟩, .int .i64 P, .string (strOfNums u)] 39 (0, 0)) ∧ w2.grownBy wx (some bx))
  case first =>
    obtain ⟨y0, y1, y2, y3, y4, y5⟩ := six_cells kx.out
    obtain ⟨z0, z1, z2, z3, z4, z5⟩ := six_frozen kx.out
    go_region_held3 (fun _ : World => True) (exact True.intro) (first
      | (go_at_call 44
         refine (l1Of_any (some ⟨b0, off + 2, none⟩) 2 _ [p0, p1] _ ?_ (by omega) hbP.out).mono ?_
         · first
           | exact hrP7
           | exact hrP
           | exact hrP.alloc _
         rintro e w' ⟨rfl, rfl⟩
         rw [hP.out])
      | (refine step_append_rd _ rfl _ _ rfl w2.heap.size (some ⟨w2.heap.size, 0, none⟩) 0 0 [] rfl ?_ (some ⟨b0, off + 4, none⟩) 4 _ [qa, qb, qg, qd] rfl ?_ (by omega) ?_ ?_
         · exact own_empty w2
         · exact hrQ.alloc _
         · first | omega | (simp <;> omega)
         intro A7 c7 w7 ho7 hg7
         replace hg7 : World.grownBy _ w7 (some w2.heap.size) := hg7
         have hG7 : w2.grownBy w7 (some bx) := by
           have hb : Below w2.heap.size w2 w7 := by
             refine Below.grown (w' := w7) ?_ hg7 (by simp) (fun k hk => by injection hk with hk; omega)
             go_grown
           exact below_grown hb (some bx)
         have k7 : w7.heap[bx]? = some (.cells #[.int .i64 cm, .int .i64 0, .slice none 0 0, .string ⟨#[]⟩, .int .i64 0, .string (strOfNums u)] 39 (0, 0)) := by
           refine (hg7.block bx (by simp; omega) (fun h => by injection h with h; omega)).trans ?_
           exact (heap_alloc_old w2 _ hbx2).trans kx.out
         have hrP7 : Rd w7 (some ⟨b0, off + 2, none⟩) 2 (ints [p0, p1]) := hrP.grown hG7 (.inr (by simp; omega))
         obtain ⟨y0, y1, y2, y3, y4, y5⟩ := six_cells k7
         obtain ⟨z0, z1, z2, z3, z4, z5⟩ := six_frozen k7
         replace k7 := Lib.hid k7))
    all_goals
      go_wp2_with fail
      go_meet
      obtain ⟨X, hX⟩ : ∃ X : World, X = (((w7.setCell ⟨bx, 1, none⟩ (.int .i64 1)).setCell ⟨bx, 2, none⟩ (.slice A7 4 c7)).setCell ⟨bx, 3, none⟩ (.string ⟨#[]⟩)).setCell ⟨bx, 4, none⟩ (.int .i64 P) := ⟨_, rfl⟩
      rw [← hX]
      have ho7' : w7.ownsRow w2.heap.size 3 1 (.slice A7 4 c7) 4 (ints [qa, qb, qg, qd]) := by simpa [ints] using ho7
      have hne7 : Value.ownBlock (.slice A7 4 c7) ≠ some bx := own_apart_row ho7' k7.out (by decide)
      have F1 : X.ownsRow w2.heap.size 3 1 (.slice A7 4 c7) 4 (ints [qa, qb, qg, qd]) := by
        rw [hX]
        exact own_set_ne (own_set_ne (own_set_ne (own_set_ne ho7' hne7) hne7) hne7) hne7
      have F2 : X.heap[bx]? = some (.cells #[.int .i64 cm, .int .i64 1, .slice A7 4 c7, .string ⟨#[]⟩, .int .i64 P, .string (strOfNums u)] 39 (0, 0)) := by
        rw [hX]
        exact row_set (row_set (row_set (row_set k7.out 1 _) 2 _) 3 _) 4 _
      have F3 : w2.grownBy X (some bx) := by
        rw [hX]
        exact grown_trans (grown_trans (grown_trans (grown_trans hG7 (grown_set _ bx 1 _)) (grown_set _ bx 2 _)) (grown_set _ bx 3 _)) (grown_set _ bx 4 _)
      clear hX
      first
        | exact ⟨A7, c7, F1, F2, F3⟩
        | exact ⟨A7, c7, F1.drew, F2, ⟨F3.os, F3.tape, F3.output, F3.size, F3.block⟩⟩
  case rest =>
  obtain ⟨A7, c7, o7, kx7, hG7⟩ := hcut
  obtain ⟨w3, rfl⟩ : ∃ w3 : World, w3 = wc := ⟨_, rfl⟩
  have hs3 := hG7.size
  have hB3 : Below w.heap.size w w3 := bgrow hB2 hG7 fun k hk => by injection hk with hk; omega
  replace k0 := Lib.hid ((hG7.block w.heap.size hw2 (fun h => by injection h with h; omega)).trans k0.out)
  replace hx := hx.grown hG7 (.inr (by simp; omega))
  replace hrP := hrP.grown hG7 (.inr (by simp; omega))
  replace hc4 := hG7.cell hc4 (by simpa using hbb)
  replace hc5 := hG7.cell hc5 (by simpa using hbb)
  replace hc6 := hG7.cell hc6 (by simpa using hbb)
  replace hc7 := hG7.cell hc7 (by simpa using hbb)
  have hw3 : w.heap.size < w3.heap.size := by omega
  have hbx3 : bx < w3.heap.size := by omega
  have hb03 : b0 < w3.heap.size := by omega
  clear hrQ kx hG7 hB2 hB1
  replace kx7 := Lib.hid kx7
  obtain ⟨d0, d1, d2, d3, d4, d5⟩ := six_cells k0.out
  obtain ⟨f0, f1, f2, f3, f4, f5⟩ := six_frozen k0.out
  have hsel : (qa == 0) = false ∨ ((qa == 0) = true ∧ (qb == 0) = false) ∨ ((qa == 0) = true ∧ (qb == 0) = true ∧ (qg == 0) = false) ∨ ((qa == 0) = true ∧ (qb == 0) = true ∧ (qg == 0) = true) := by
    cases (qa == 0) <;> cases (qb == 0) <;> cases (qg == 0) <;> simp
  obtain ⟨Z, hZ⟩ : ∃ Z, decide (qa = 0 ∧ qb = 0 ∧ qg = 0) = Z := ⟨_, rfl⟩
  replace hZ := Lib.hid hZ
  go_upto_region 8 with fail
  go_cut [60] (fun v wx => v = .bool Z ∧ w3 = wx)
  case first =>
    rcases hsel with t1 | ⟨t1, t2⟩ | ⟨t1, t2, t3⟩ | ⟨t1, t2, t3⟩
    · have hz : Z = false := by
        rw [← hZ.out]
        simp at t1
        simp [t1]
      subst hz
      go_wp2_with fail
      go_meet
      exact ⟨rfl, rfl⟩
    · have hz : Z = false := by
        rw [← hZ.out]
        simp at t2
        simp [t2]
      subst hz
      go_wp2_with fail
      go_meet
      exact ⟨rfl, rfl⟩
    · have hz : Z = false := by
        rw [← hZ.out]
        simp at t3
        simp [t3]
      subst hz
      go_wp2_with fail
      go_meet
      exact ⟨rfl, rfl⟩
    · have hz : Z = true := by
        rw [← hZ.out]
        simp at t1 t2 t3
        simp [t1, t2, t3]
      subst hz
      go_wp2_with fail
      go_meet
      exact ⟨rfl, rfl⟩
  case rest =>
  obtain ⟨rfl, rfl⟩ := hcut
  clear hsel
  go_upto_if 60 with fail
  go_cut [5] (fun v wx => ∃ (y : Od) (AY : Option Addr) (nY cY F : Nat), v = .int .i64 (F : Int) ∧ F ≤ 1000 ∧ wx.heap[w.heap.size]? = some (.cells #[.int .i64 0, .int .i64 0, .slice none 0 0, .string ⟨#[]⟩, .int .i64 0, .string ⟨#[]⟩] 39 (0, 0)) ∧ wx.heap[bx]? = some (.cells #[.int .i64 y.cmd, .int .i64 y.to.kind, .slice AY nY cY, .string y.to.name, .int .i64 y.to.port, .string y.user] 39 (0, 0)) ∧ wx.ownsRow w2.heap.size 3 1 (.slice AY nY cY) nY (ints y.to.quad) ∧ Below w.heap.size w wx ∧ (nY ≤ 4 ∧ y.to.name.size ≤ 255 ∧ y.user.size ≤ 255) ∧ (x, m, b) = (if odV y = true then (y, F + 1, true) else (Od.none, 0, false)))
  case first =>
    cases Z
    case false =>
      have hz : ¬ (qa = 0 ∧ qb = 0 ∧ qg = 0) := by simpa using hZ.out
      have hval : odO (4 :: cm :: p0 :: p1 :: qa :: qb :: qg :: qd :: t) = if odV ⟨cm, ⟨1, [qa, qb, qg, qd], ⟨#[]⟩, P⟩, strOfNums u⟩ = true then (⟨cm, ⟨1, [qa, qb, qg, qd], ⟨#[]⟩, P⟩, strOfNums u⟩, E + 1, true) else (Od.none, 0, false) := by
        unfold odO
        simp only
        rw [hp.out, hcut'.out]
        simp only
        rw [if_neg hz, hE.out]
        unfold odX
        rw [hP.out]
        rfl
      rw [h.out] at hval
      replace hval := Lib.hid hval
      clear hz
      go_wp2_with fail
      go_meet
      exact ⟨⟨cm, ⟨1, [qa, qb, qg, qd], ⟨#[]⟩, P⟩, strOfNums u⟩, A7, 4, c7, E, rfl, by omega, k0.out, kx7.out, o7, hB3, ⟨by omega, by show ByteArray.size ⟨#[]⟩ ≤ _; exact Nat.zero_le _, by show ByteArray.size (strOfNums u) ≤ _; omega⟩, hval.out⟩
    case true =>
      obtain ⟨rfl, rfl, rfl⟩ : qa = 0 ∧ qb = 0 ∧ qg = 0 := by simpa using hZ.out
      obtain ⟨r, hre⟩ : ∃ r, r = t.drop (u.length + 1) := ⟨_, rfl⟩
      have hcut2 := hcut'.out
      rw [← hre] at hcut2
      replace hcut2 := Lib.hid hcut2
      have hdrop : (4 :: cm :: p0 :: p1 :: 0 :: 0 :: 0 :: qd :: t).drop (E + 1) = r := by
        rw [hre, hE.out, show 8 + u.length + 1 = (u.length + 1) + 8 by omega]
        rfl
      have hrl : r.length + E + 1 = n := by
        have := hx.ilen
        rw [hre, List.length_drop]
        simp at this
        have := hE.out
        omega
      have hend2 : endI (4 :: cm :: p0 :: p1 :: 0 :: 0 :: 0 :: qd :: t) (E + 1) = if (upTo0 r).length < r.length then ((E + 1 + (upTo0 r).length : Nat) : Int) else -1 := by
        unfold endI
        rw [hdrop, hx.ilen]
        have e2 : (E + 1 + (upTo0 r).length < n) = ((upTo0 r).length < r.length) := by simp; omega
        simp only [e2]
      have hE1c : ((E + 1 : Nat) : Int) = (E : Int) + 1 := by simp
      have hcall := l4End_any (some ⟨b0, off, none⟩) n c _ (E + 1) w3 hx (by omega) (by omega)
      rw [hend2, hE1c] at hcall
      replace hcall := Lib.hid hcall
      replace hend2 := Lib.hid hend2
      replace hre := Lib.hid hre
      replace hdrop := Lib.hid hdrop
      have hE1b : (E : Int) + 1 ≤ 9223372036854775807 := by omega
      clear hE1c
      go_wp2_with fail
      refine hcall.out.mono ?_
      rintro e w4 ⟨rfl, rfl⟩
      clear hcall
      by_cases hs : (upTo0 r).length < r.length
      case neg =>
        rw [if_neg hs]
        have hno : odO (4 :: cm :: p0 :: p1 :: 0 :: 0 :: 0 :: qd :: t) = (Od.none, 0, false) := by
          unfold odO
          simp only
          rw [hp.out, if_pos (by rfl), hcut2.out]
          simp only
          rw [if_pos (by simp), cut0_no hs]
        rw [h.out] at hno
        simp only [Prod.mk.injEq] at hno
        obtain ⟨rfl, rfl, rfl⟩ := hno
        go_upto_region 11 with fail
        rename_i KK hKK
        go_cut [3, 4] (fun v3 v4 wx => v3 = .int .i64 0 ∧ v4 = .bool false ∧ wx = (((((w3.setCell ⟨w.heap.size, 0, none⟩ (.int .i64 0)).setCell ⟨w.heap.size, 1, none⟩ (.int .i64 0)).setCell ⟨w.heap.size, 2, none⟩ (.slice none 0 0)).setCell ⟨w.heap.size, 3, none⟩ (.string ⟨#[]⟩)).setCell ⟨w.heap.size, 4, none⟩ (.int .i64 0)).setCell ⟨w.heap.size, 5, none⟩ (.string ⟨#[]⟩))
        case first =>
          go_wp2_with fail
          go_meet
          exact ⟨rfl, rfl, rfl⟩
        case rest =>
          obtain ⟨rfl, rfl, hwc⟩ := hcut
          refine hKK _ _ (wp_ret ?_)
          repeat (refine exit_ret ?_)
          have kZ : wc.heap[w.heap.size]? = some (.cells #[.int .i64 0, .int .i64 0, .slice none 0 0, .string ⟨#[]⟩, .int .i64 0, .string ⟨#[]⟩] 39 (0, 0)) := by
            rw [hwc]
            exact row_set6 k0.out _ _ _ _ _ _
          have bZ : Below w.heap.size w wc := by
            rw [hwc]
            exact below_set6 hB3 (Nat.le_refl _) _ _ _ _ _ _
          clear hwc
          refine bodyPost_ret (results_cell3 rfl _ _ w.heap.size 39 _ (0, 0) _ rfl kZ Tryd.underlying39 rfl (by kernel_rfl)) rfl
            ⟨none, 0, 0, rfl, by omega, ⟨(show (0 : Nat) ≤ 255 by omega), (show (0 : Nat) ≤ 255 by omega)⟩, World.ownsRow_nil _ _ _ _, bZ⟩
      case pos =>
      rw [if_pos hs]
      by_cases hd : qd = 1
      case neg =>
        have hno : odO (4 :: cm :: p0 :: p1 :: 0 :: 0 :: 0 :: qd :: t) = (Od.none, 0, false) := by
          unfold odO
          simp only
          rw [hp.out, if_pos (by rfl), hcut2.out]
          simp only
          rw [if_pos (by simp), cut0_yes hs]
          simp only
          rw [if_neg (fun hh => hd hh.1)]
        rw [h.out] at hno
        simp only [Prod.mk.injEq] at hno
        obtain ⟨rfl, rfl, rfl⟩ := hno
        have g7 : (qd != 1) = true := by simpa using hd
        clear hd
        generalize E + 1 + (upTo0 r).length = L
        have hl0 : decide ((L : Int) < 0) = false := by simp
        clear hs hend2
        go_upto_region 11 with fail
        rename_i KK hKK
        go_cut [3, 4] (fun v3 v4 wx => v3 = .int .i64 0 ∧ v4 = .bool false ∧ wx = (((((w3.setCell ⟨w.heap.size, 0, none⟩ (.int .i64 0)).setCell ⟨w.heap.size, 1, none⟩ (.int .i64 0)).setCell ⟨w.heap.size, 2, none⟩ (.slice none 0 0)).setCell ⟨w.heap.size, 3, none⟩ (.string ⟨#[]⟩)).setCell ⟨w.heap.size, 4, none⟩ (.int .i64 0)).setCell ⟨w.heap.size, 5, none⟩ (.string ⟨#[]⟩))
        case first =>
          go_wp2_with fail
          go_meet
          exact ⟨rfl, rfl, rfl⟩
        case rest =>
          obtain ⟨rfl, rfl, hwc⟩ := hcut
          refine hKK _ _ (wp_ret ?_)
          repeat (refine exit_ret ?_)
          have kZ : wc.heap[w.heap.size]? = some (.cells #[.int .i64 0, .int .i64 0, .slice none 0 0, .string ⟨#[]⟩, .int .i64 0, .string ⟨#[]⟩] 39 (0, 0)) := by
            rw [hwc]
            exact row_set6 k0.out _ _ _ _ _ _
          have bZ : Below w.heap.size w wc := by
            rw [hwc]
            exact below_set6 hB3 (Nat.le_refl _) _ _ _ _ _ _
          clear hwc
          refine bodyPost_ret (results_cell3 rfl _ _ w.heap.size 39 _ (0, 0) _ rfl kZ Tryd.underlying39 rfl (by kernel_rfl)) rfl
            ⟨none, 0, 0, rfl, by omega, ⟨(show (0 : Nat) ≤ 255 by omega), (show (0 : Nat) ≤ 255 by omega)⟩, World.ownsRow_nil _ _ _ _, bZ⟩
      case pos =>
      subst hd
      have g7 : ((1 : Int) != 1) = false := rfl
      have hcut3 := cut0_yes hs
      obtain ⟨s, hse⟩ : ∃ s, s = upTo0 r := ⟨_, rfl⟩
      rw [← hse] at hcut3 hs
      rw [← hse]
      have hsr : r.take s.length = s := by rw [hse]; exact upTo0_take r
      obtain ⟨L, hL⟩ : ∃ L, L = E + 1 + s.length := ⟨_, rfl⟩
      rw [← hL]
      have hLE : L - (E + 1) = s.length := by omega
      have hLn : L < n := by omega
      have hLE' : E + 1 ≤ L := by omega
      have hval : odO (4 :: cm :: p0 :: p1 :: 0 :: 0 :: 0 :: 1 :: t) = if odV ⟨cm, ⟨3, [], strOfNums s, P⟩, strOfNums u⟩ = true then (⟨cm, ⟨3, [], strOfNums s, P⟩, strOfNums u⟩, L + 1, true) else (Od.none, 0, false) := by
        unfold odO
        simp only
        rw [hp.out, if_pos (by rfl), hcut2.out]
        simp only
        rw [if_pos (by simp), hcut3, hL, hE.out]
        unfold odX
        simp only
        rw [hP.out]
        simp only [true_and]
      rw [h.out] at hval
      replace hval := Lib.hid hval
      have hrS : Rd w3 (some ⟨b0, off + (E + 1), none⟩) (L - (E + 1)) (ints s) := by
        have h1 := hx.part (E + 1) (L - (E + 1)) (by omega)
        rw [hdrop.out, hLE, hsr, ← hLE] at h1
        exact h1
      have hbS : ∀ y ∈ s, 0 ≤ y ∧ y ≤ 255 := by
        intro y hy
        refine hby.out y ?_
        rw [← hsr] at hy
        have h1 := List.mem_of_mem_take hy
        rw [← hdrop.out] at h1
        exact List.mem_of_mem_drop h1
      have hszS : (strOfNums s).size ≤ 120 := by rw [strOfNums_size]; omega
      replace hse := Lib.hid hse
      replace hsr := Lib.hid hsr
      replace hcut3 := Lib.hid hcut3
      replace hbS := Lib.hid hbS
      replace hLE := Lib.hid hLE
      replace hL := Lib.hid hL
      have a1 : IntKind.i64.wrap ((E : Int) + 1) = (E : Int) + 1 := by rw [IntKind.wrap_i64]; omega
      have a2 : ((E : Int) + 1).toNat = E + 1 := by omega
      have a3 : (0 : Int) ≤ (E : Int) + 1 := by omega
      have a4 : (E : Int) + 1 ≤ (L : Int) := by omega
      have a5 : (L : Int) ≤ (c : Int) := by omega
      have a6 : ¬ c = E + 1 := by omega
      have a7 : decide ((L : Int) < 0) = false := by simp
      go_upto_region 12 with fail
      go_cut [] (fun wx => ∃ z : Nat, wx.ownsRow w3.heap.size 3 1 (.slice (some ⟨z, 0, none⟩) 0 0) 0 (ints []) ∧ wx.heap[bx]? = some (.cells #[.int .i64 cm, .int .i64 3, .slice (some ⟨z, 0, none⟩) 0 0, .string (strOfNums s), .int .i64 P, .string (strOfNums u)] 39 (0, 0)) ∧ w3.grownBy wx (some bx))
      case first =>
        obtain ⟨y0, y1, y2, y3, y4, y5⟩ := six_cells kx7.out
        obtain ⟨z0, z1, z2, z3, z4, z5⟩ := six_frozen kx7.out
        go_region_held3 (fun _ : World => True) (exact True.intro) (first
          | (go_at_call 44
             refine (l1Of_any (some ⟨b0, off + 2, none⟩) 2 _ [p0, p1] _ ?_ (by omega) hbP.out).mono ?_
             · first
               | exact hrPn
               | exact hrPn.alloc _
               | exact hrP
               | exact hrP.alloc _
             rintro e w' ⟨rfl, rfl⟩
             rw [hP.out])
          | (go_at_call 45
             refine (l1Bytes_any (some ⟨b0, off + (E + 1), none⟩) (L - (E + 1)) _ s _ ?_ (by omega) hbS.out).mono ?_
             · first
               | exact hrS
               | exact hrS.alloc _
             rintro e wn ⟨rfl, hbn⟩
             have hBn : Below w3.heap.size w3 wn := bstep (by go_grown) hbn
             have hsn : w3.heap.size ≤ wn.heap.size := hBn.size
             have hrPn := hrP.below hBn
             have kn := (hBn.block bx hbx3).trans kx7.out
             obtain ⟨y0, y1, y2, y3, y4, y5⟩ := six_cells kn
             obtain ⟨z0, z1, z2, z3, z4, z5⟩ := six_frozen kn
             have hxn : bx < wn.heap.size := by omega
             replace kn := Lib.hid kn))
        all_goals
          go_wp2_with fail
          go_meet
          first
            | (obtain ⟨X, hX⟩ : ∃ X : World, X = (((wn.setCell ⟨bx, 1, none⟩ (.int .i64 3)).setCell ⟨bx, 2, none⟩ (.slice (some ⟨w3.heap.size, 0, none⟩) 0 0)).setCell ⟨bx, 3, none⟩ (.string (strOfNums s))).setCell ⟨bx, 4, none⟩ (.int .i64 P) := ⟨_, rfl⟩
               rw [← hX]
               have F1 : X.ownsRow w3.heap.size 3 1 (.slice (some ⟨w3.heap.size, 0, none⟩) 0 0) 0 (ints []) := by
                 rw [hX]
                 exact own_set (own_set (own_set (own_set (own_below (by exact own_empty w3) hbn) hbx3) hbx3) hbx3) hbx3
               have F2 : X.heap[bx]? = some (.cells #[.int .i64 cm, .int .i64 3, .slice (some ⟨w3.heap.size, 0, none⟩) 0 0, .string (strOfNums s), .int .i64 P, .string (strOfNums u)] 39 (0, 0)) := by
                 rw [hX]
                 exact row_set (row_set (row_set (row_set kn.out 1 _) 2 _) 3 _) 4 _
               have F3 : w3.grownBy X (some bx) := by
                 rw [hX]
                 exact grown_trans (grown_trans (grown_trans (grown_trans (below_grown hBn (some bx)) (grown_set _ bx 1 _)) (grown_set _ bx 2 _)) (grown_set _ bx 3 _)) (grown_set _ bx 4 _)
               exact ⟨w3.heap.size, F1, F2, F3⟩)
            | (obtain ⟨X, hX⟩ : ∃ X : World, X = (((wn.setCell ⟨bx, 1, none⟩ (.int .i64 3)).setCell ⟨bx, 2, none⟩ (.slice (some ⟨wn.heap.size, 0, none⟩) 0 0)).setCell ⟨bx, 3, none⟩ (.string (strOfNums s))).setCell ⟨bx, 4, none⟩ (.int .i64 P) := ⟨_, rfl⟩
               rw [← hX]
               have hsX : X.heap.size = wn.heap.size := by rw [hX]; simp [World.setCell]
               have F2 : X.heap[bx]? = some (.cells #[.int .i64 cm, .int .i64 3, .slice (some ⟨wn.heap.size, 0, none⟩) 0 0, .string (strOfNums s), .int .i64 P, .string (strOfNums u)] 39 (0, 0)) := by
                 rw [hX]
                 exact row_set (row_set (row_set (row_set kn.out 1 _) 2 _) 3 _) 4 _
               have F3 : w3.grownBy X (some bx) := by
                 rw [hX]
                 exact grown_trans (grown_trans (grown_trans (grown_trans (below_grown hBn (some bx)) (grown_set _ bx 1 _)) (grown_set _ bx 2 _)) (grown_set _ bx 3 _)) (grown_set _ bx 4 _)
               have F1 : (X.alloc (.cells #[] 3)).ownsRow w3.heap.size 3 1 (.slice (some ⟨wn.heap.size, 0, none⟩) 0 0) 0 (ints []) := by
                 rw [← hsX]
                 exact own_base (own_empty X) (by omega)
               exact ⟨wn.heap.size, F1, (heap_alloc_old X _ (by omega)).trans F2, grown_trans F3 (World.grownBy_alloc X _ _)⟩)
      case rest =>
      obtain ⟨z, oz, kxz, hGz⟩ := hcut
      have hBz : Below w.heap.size w wc := bgrow hB3 hGz fun k hk => by injection hk with hk; omega
      have k0z := (hGz.block w.heap.size hw3 (fun h => by injection h with h; omega)).trans k0.out
      go_wp2_with fail
      go_meet
      exact ⟨⟨cm, ⟨3, [], strOfNums s, P⟩, strOfNums u⟩, some ⟨z, 0, none⟩, 0, 0, L, rfl, by omega, k0z, kxz, own_base oz (by omega), hBz, ⟨by omega, by show ByteArray.size (strOfNums s) ≤ _; omega, by show ByteArray.size (strOfNums u) ≤ _; omega⟩, hval.out⟩
  case rest =>
  obtain ⟨y, AY, nY, cY, F, rfl, hF, k0Y, kxY, oY, hBY, ⟨hnY, hsY1, hsY2⟩, hval⟩ := hcut
  obtain ⟨w5, rfl⟩ : ∃ w5 : World, w5 = wc := ⟨_, rfl⟩
  have hwY : w.heap.size < w5.heap.size := (Array.getElem?_eq_some_iff.1 k0Y).1
  have hxY : bx < w5.heap.size := (Array.getElem?_eq_some_iff.1 kxY).1
  obtain ⟨r, hr⟩ : ∃ r, odV y = r := ⟨_, rfl⟩
  rw [hr] at hval
  replace hval := Lib.hid hval
  replace hr := Lib.hid hr
  have hnbx : bx ≠ w.heap.size := by omega
  clear hc4 hc5 hc6 hc7 d0 d1 d2 d3 d4 d5 f0 f1 f2 f3 f4 f5 kx7 o7 hB3 hx hrP k0 hc hn hs1 hn120 h9 g9 htl i0 i1 i4 i5 i6 i7 j1 hb0 h hp hby g4 hend hu hEn hE8' hue hut hcut' hszU hbU hbP hP hE e8c e8n ec8 ec4 ec2 e4c e8c' gE hE8 hbx2 hb02 hbb hs3 hw3 hbx3 hb03 hZ hbx hs2 hw1
  obtain ⟨x0, x1, x2, x3, x4, x5⟩ := six_cells kxY
  go_wp2_with fail
  refine (l4Ok_any y AY nY cY _ (Rd.own oY) (by omega) (by omega) _ hr.out).mono ?_
  rintro e w4 ⟨rfl, hb4⟩
  have hB4 := bstep hBY hb4
  have k04 := (hb4.block _ hwY).trans k0Y
  have kx4 := (hb4.block _ hxY).trans kxY
  have o4 := own_below oY hb4
  have hs4 := hb4.size
  clear hb4 x0 x1 x2 x3 x4 x5 kxY k0Y oY hBY
  obtain ⟨d0, d1, d2, d3, d4, d5⟩ := six_cells k04
  obtain ⟨f0, f1, f2, f3, f4, f5⟩ := six_frozen k04
  obtain ⟨x0, x1, x2, x3, x4, x5⟩ := six_cells kx4
  replace k04 := Lib.hid k04
  replace kx4 := Lib.hid kx4
  have hv := hval.out
  clear hval
  cases r
  case false =>
    simp only [Bool.false_eq_true, if_false, Prod.mk.injEq] at hv
    obtain ⟨rfl, rfl, rfl⟩ := hv
    go_upto_region 15 with fail
    rename_i KK hKK
    go_cut [3, 4] (fun v3 v4 wx => v3 = .int .i64 0 ∧ v4 = .bool false ∧ wx = (((((w4.setCell ⟨w.heap.size, 0, none⟩ (.int .i64 0)).setCell ⟨w.heap.size, 1, none⟩ (.int .i64 0)).setCell ⟨w.heap.size, 2, none⟩ (.slice none 0 0)).setCell ⟨w.heap.size, 3, none⟩ (.string ⟨#[]⟩)).setCell ⟨w.heap.size, 4, none⟩ (.int .i64 0)).setCell ⟨w.heap.size, 5, none⟩ (.string ⟨#[]⟩))
    case first =>
      go_wp2_with fail
      go_meet
      exact ⟨rfl, rfl, rfl⟩
    case rest =>
      obtain ⟨rfl, rfl, hwc⟩ := hcut
      refine hKK _ _ (wp_ret ?_)
      repeat (refine exit_ret ?_)
      have kZ : wc.heap[w.heap.size]? = some (.cells #[.int .i64 0, .int .i64 0, .slice none 0 0, .string ⟨#[]⟩, .int .i64 0, .string ⟨#[]⟩] 39 (0, 0)) := by
        rw [hwc]
        exact row_set6 k04.out _ _ _ _ _ _
      have bZ : Below w.heap.size w wc := by
        rw [hwc]
        exact below_set6 hB4 (Nat.le_refl _) _ _ _ _ _ _
      clear hwc
      refine bodyPost_ret (results_cell3 rfl _ _ w.heap.size 39 _ (0, 0) _ rfl kZ Tryd.underlying39 rfl (by kernel_rfl)) rfl
        ⟨none, 0, 0, rfl, by omega, ⟨(show (0 : Nat) ≤ 255 by omega), (show (0 : Nat) ≤ 255 by omega)⟩, World.ownsRow_nil _ _ _ _, bZ⟩
  case true =>
    simp only [if_true, Prod.mk.injEq] at hv
    obtain ⟨rfl, rfl, rfl⟩ := hv
    go_upto_region 16 with fail
    rename_i KK hKK
    go_cut [3, 4] (fun v3 v4 wx => v3 = .int .i64 ((F + 1 : Nat) : Int) ∧ v4 = .bool true ∧ wx = (((((w4.setCell ⟨w.heap.size, 0, none⟩ (.int .i64 x.cmd)).setCell ⟨w.heap.size, 1, none⟩ (.int .i64 x.to.kind)).setCell ⟨w.heap.size, 2, none⟩ (.slice AY nY cY)).setCell ⟨w.heap.size, 3, none⟩ (.string x.to.name)).setCell ⟨w.heap.size, 4, none⟩ (.int .i64 x.to.port)).setCell ⟨w.heap.size, 5, none⟩ (.string x.user))
    case first =>
      go_wp2_with fail
      go_meet
      exact ⟨by simp, rfl, rfl⟩
    case rest =>
      obtain ⟨rfl, rfl, hwc⟩ := hcut
      refine hKK _ _ (wp_ret ?_)
      repeat (refine exit_ret ?_)
      have kZ : wc.heap[w.heap.size]? = some (.cells #[.int .i64 x.cmd, .int .i64 x.to.kind, .slice AY nY cY, .string x.to.name, .int .i64 x.to.port, .string x.user] 39 (0, 0)) := by
        rw [hwc]
        exact row_set6 k04.out _ _ _ _ _ _
      have bZ : Below w.heap.size w wc := by
        rw [hwc]
        exact below_set6 hB4 (Nat.le_refl _) _ _ _ _ _ _
      have oZ : wc.ownsRow w2.heap.size 3 1 (.slice AY nY cY) nY (ints x.to.quad) := by
        rw [hwc]
        exact own_set6 o4 (by omega) _ _ _ _ _ _
      clear hwc
      refine bodyPost_ret (results_cell3 rfl _ _ w.heap.size 39 _ (0, 0) _ rfl kZ Tryd.underlying39 rfl (by kernel_rfl)) rfl
        ⟨AY, nY, cY, rfl, hnY, ⟨hsY1, hsY2⟩, own_base oZ (by omega), bZ⟩
end Go.Proofs.YtjlgkepbflcefaaDoor
