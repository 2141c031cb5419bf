/- A request of the fourth version as bytes. No condition. -/
import Derived.Test.YtjlgkepbflcefaaDoorOV
import Derived.Test.YtjlgkepbflcefaaDoorFr
import Derived.Test.YtjlgkepbflcefaaDoorAB
import Derived.Deep.RegionHeld3
namespace Go.Proofs.YtjlgkepbflcefaaDoor
open Go.RowKit
theorem odV_facts {x : Od} (h : odV x = true) : adV x.to = true ∧ (0 ≤ x.to.port ∧ x.to.port ≤ 65535) ∧ x.user.size ≤ 8 ∧ x.to.name.size ≤ 20 ∧ ((x.to.kind = 1 ∧ x.to.quad.length = 4) ∨ x.to.kind = 3) := by
  obtain ⟨_, ha, _, _⟩ := odV_true.1 h
  obtain ⟨h1, h2⟩ := odV_sizes h
  obtain ⟨hp, hk⟩ := adV_true.1 ha
  refine ⟨ha, hp, h1, h2, ?_⟩
  rcases hk with hk | hk
  · exact .inl ⟨hk.1, (qv_true.1 hk.2.1).1⟩
  · exact .inr hk.1
theorem odQ_length {x : Od} (h : odV x = true) : (odQ x).length = 4 := by
  obtain ⟨_, _, _, _, hk | hk⟩ := odV_facts h
  · unfold odQ
    rw [if_neg (by omega)]
    exact hk.2
  · unfold odQ
    rw [if_pos hk]
    rfl
set_option maxRecDepth 20000 in
set_option maxHeartbeats 8000000 in
theorem oldBytes_impl (x : Od) (A : Option Addr) (n c : Nat) (w : World) (hM : EnvM w) (hx : Rd w A n (ints x.to.quad)) (hc : n ≤ c) (hs : x.to.name.size ≤ 4000000) (hu : x.user.size ≤ 4000000) (zs : List Int) (b : Bool) (h : odW x = (zs, b)) :
    Calls Tryd.prog 28 #[odVal x A n c] w (RetIB w zs b) := by
  have k0 := heap_alloc_new w (.cells #[.int .i64 x.cmd, .int .i64 x.to.kind, .slice A n c, .string x.to.name, .int .i64 x.to.port, .string x.user] 39)
  have hB0 : Below w.heap.size w (w.alloc (.cells #[.int .i64 x.cmd, .int .i64 x.to.kind, .slice A n c, .string x.to.name, .int .i64 x.to.port, .string x.user] 39)) := by go_grown
  obtain ⟨r, hr⟩ : ∃ r, odV x = r := ⟨_, rfl⟩
  unfold odW at h
  rw [hr] at h
  replace hr := Lib.hid hr
  go_enter Tryd.func28, Tryd.ntmps28
  go_wp2_with fail
  refine (isOld_any x A n c _ (hM.step hB0) (hx.below hB0) hc hs hu _ hr.out).mono ?_
  rintro e w1 ⟨rfl, hb1⟩
  have hB1 := bstep hB0 hb1
  replace hx := hx.below hB1
  have k1 := (hb1.block _ (by simp)).trans k0
  have hgl : w.heap.size < w1.heap.size := by have := hb1.size; simp at this; omega
  clear hb1 hB0 hM k0
  cases r
  case false =>
    simp only [Bool.false_eq_true, if_false, Prod.mk.injEq] at h
    obtain ⟨rfl, rfl⟩ := h
    go_wp2_with fail
    go_ret2
    exact ⟨none, 0, 0, rfl, World.ownsRow_nil _ _ _ _, hB1⟩
  case true =>
    simp only [if_true, Prod.mk.injEq] at h
    obtain ⟨rfl, rfl⟩ := h
    obtain ⟨_, hport, hus, hnm, hkind⟩ := odV_facts hr.out
    have hql := odQ_length hr.out
    have hl := hx.ilen
    go_upto_region 3 with fail
    go_cut [4] (fun v wx => ∃ A1 c1, v = .slice A1 4 c1 ∧ wx.ownsRow w1.heap.size 3 1 (.slice A1 4 c1) 4 (ints ([4, x.cmd] ++ nb x.to.port 2)) ∧ Below w1.heap.size w1 wx)
    case first =>
      obtain ⟨c0, c1, c2, c3, c4, c5⟩ := six_cells k1
      replace k1 := Lib.hid k1
      go_region_held3 (fun w' => w'.cell? ⟨w.heap.size, 0, none⟩ = some (.int .i64 x.cmd) ∧ w'.cell? ⟨w.heap.size, 4, none⟩ = some (.int .i64 x.to.port))
        (first
          | go_keep
          | exact ⟨sn0, sn4⟩
          | exact ⟨sa0, sa4⟩)
        (first
          | (go_at_call 57
             refine (numberBytes_any x.to.port (by omega) 2 (by omega) _).mono ?_
             rintro e wn ⟨An, nn, cn, rfl, on, hbn⟩
             obtain rfl : nn = 2 := by have := (Rd.own on).ilen; rw [nb_length] at this; omega
             have hBn : Below w1.heap.size w1 wn := bstep (by go_grown) hbn
             have hsn : w1.heap.size ≤ wn.heap.size := hBn.size
             have sn0 : wn.cell? ⟨w.heap.size, 0, none⟩ = some (.int .i64 x.cmd) := (hBn.cell hgl).trans c0
             have sn4 : wn.cell? ⟨w.heap.size, 4, none⟩ = some (.int .i64 x.to.port) := (hBn.cell hgl).trans c4)
          | (refine step_append_rd _ rfl _ _ rfl w1.heap.size (some ⟨_, 0, none⟩) 2 2 [4, x.cmd] rfl ?_ An 2 cn (nb x.to.port 2) rfl ?_ (by omega) ?_ ?_
             · first
               | exact own_below (by exact own_cells w1 3 #[.int .i64 4, .int .i64 x.cmd] 2 (by omega) rfl) hbn
               | exact own_base (own_cells wn 3 #[.int .i64 4, .int .i64 x.cmd] 2 (by omega) rfl) hsn
             · first
               | exact Rd.own on
               | exact (Rd.own on).alloc _
             · first | omega | (simp <;> omega)
             intro A4 c4' w4 ho4 hg4
             replace hg4 : World.grownBy _ w4 (some _) := hg4
             have hB4 : Below w1.heap.size w1 w4 := by
               first
                 | (refine hBn.grown hg4 hsn ?_; intro k hk; simp at hk; omega)
                 | (refine (hBn.alloc hsn _).grown hg4 (by first | omega | (simp <;> omega)) ?_; intro k hk; simp at hk; omega)
                 | (refine ((hBn.alloc hsn _).drew).grown hg4 (by first | omega | (simp <;> omega)) ?_; intro k hk; simp at hk; omega)
             have sa0 : w4.cell? ⟨w.heap.size, 0, none⟩ = some (.int .i64 x.cmd) := (hB4.cell hgl).trans c0
             have sa4 : w4.cell? ⟨w.heap.size, 4, none⟩ = some (.int .i64 x.to.port) := (hB4.cell hgl).trans c4))
      all_goals
        go_wp2_with fail
        go_meet
        exact ⟨A4, c4', rfl, ho4, hB4⟩
    case rest =>
      obtain ⟨Ao, co, rfl, oO, hBc⟩ := hcut
      replace hx := hx.below hBc
      have k2 := (hBc.block _ hgl).trans k1
      obtain ⟨w2, rfl⟩ : ∃ w2 : World, w2 = wc := ⟨_, rfl⟩
      have hs2 := hBc.size
      have hgl2 : w.heap.size < w2.heap.size := by omega
      obtain ⟨c0, c1, c2, c3, c4, c5⟩ := six_cells k2
      replace k2 := Lib.hid k2
      have k1' := Lib.hid k1
      clear k1
      go_upto_if 23 with fail
      go_cut [5] (fun v wx => ∃ Aq cq, v = .slice Aq 4 cq ∧ Rd wx Aq 4 (ints (odQ x)) ∧ Below w2.heap.size w2 wx)
      case first =>
        rcases hkind with ⟨hk, h4⟩ | hk
        · have hkb : (x.to.kind == 3) = false := by rw [hk]; rfl
          have eQ : odQ x = x.to.quad := by unfold odQ; rw [if_neg (by omega)]
          obtain rfl : n = 4 := by omega
          clear hk
          go_wp2_with fail
          go_meet
          exact ⟨A, c, rfl, by rw [eQ]; exact hx, Below.refl _ _⟩
        · have hkb : (x.to.kind == 3) = true := by rw [hk]; rfl
          have eQ : odQ x = [0, 0, 0, 1] := by unfold odQ; rw [if_pos hk]
          clear hk
          go_wp2_with fail
          go_meet
          exact ⟨_, 4, rfl, by rw [eQ]; exact rd_lit w2 3 #[.int .i64 0, .int .i64 0, .int .i64 0, .int .i64 1] 4 (by omega) rfl, by go_grown⟩
      case rest =>
        obtain ⟨Aq, cq, rfl, rQ, hbq⟩ := hcut
        obtain ⟨wq, rfl⟩ : ∃ wq : World, wq = wc := ⟨_, rfl⟩
        replace oO := own_below oO hbq
        replace k2 := (hbq.block _ hgl2).trans k2.out
        have hBq : Below w1.heap.size w1 wq := bstep hBc hbq
        have hsq : w1.heap.size ≤ wq.heap.size := hBq.size
        clear hbq hBc c0 c1 c2 c3 c4 c5 hx
        obtain ⟨c0, c1, c2, c3, c4, cU⟩ := six_cells k2
        replace k2 := Lib.hid k2
        have hglq : w.heap.size < wq.heap.size := by omega
        go_upto_region 7 with fail
        go_cut [4] (fun v wx => ∃ A1 n1 c1, v = .slice A1 n1 c1 ∧ n1 = 9 + x.user.size ∧ wx.ownsRow w1.heap.size 3 1 (.slice A1 n1 c1) n1 (ints ([4, x.cmd] ++ nb x.to.port 2 ++ odQ x ++ sInts x.user ++ [0])) ∧ Below w1.heap.size w1 wx)
        case first =>
          have ltO : ∀ k, Value.ownBlock (.slice Ao 4 co) = some k → w1.heap.size ≤ k ∧ k < wq.heap.size := oO.lt
          go_region_held3 (fun w' => w'.cell? ⟨w.heap.size, 5, none⟩ = some (.string x.user))
            (first
              | go_keep
              | exact sn
              | exact sa
              | exact sb
              | exact sc)
            (first
              | (go_at_call 58
                 refine (textBytes_fn x.user _ (by omega)).mono ?_
                 rintro e wn ⟨At, nt, ct, rfl, ot, hbn⟩
                 obtain rfl : nt = x.user.size := by have := (Rd.own ot).ilen; rw [sInts_length] at this; omega
                 have hBn : Below w1.heap.size w1 wn := by
                   first
                     | (refine hBq.trans (Below.mono (bstep (w := wq) ?_ hbn) hsq); go_grown; done)
                     | (refine hBa.trans (Below.mono (bstep (w := wa) ?_ hbn) hBa.size); go_grown; done)
                 have hsn : wq.heap.size ≤ wn.heap.size := by have := hbn.size; first | omega | (simp at this; omega)
                 try (have hsan : wa.heap.size ≤ wn.heap.size := by have := hbn.size; first | omega | (simp at this; omega))
                 have sn : wn.cell? ⟨w.heap.size, 5, none⟩ = some (.string x.user) := (hBn.cell hgl).trans (((hBq.cell hgl).symm).trans cU))
              | (refine step_append_fr _ rfl _ _ rfl w1.heap.size Ao 4 co ([4, x.cmd] ++ nb x.to.port 2) rfl ?_ Aq 4 cq (odQ x) rfl ?_ (by omega) ?_ ?_
                 · first
                   | exact oO
                   | exact oO.alloc _
                   | exact own_below (by exact oO) hbn
                   | exact own_below (by exact oO.alloc _) hbn
                   | exact (own_below (by exact oO) hbn).alloc _
                 · first
                   | exact rQ
                   | exact rQ.alloc _
                   | exact Rd.below (by exact rQ) hbn
                   | exact Rd.below (by exact rQ.alloc _) hbn
                   | exact (Rd.below (by exact rQ) hbn).alloc _
                 · first | omega | (simp <;> omega)
                 intro Aa ca wa oa hga hfa
                 have hsa : wq.heap.size ≤ wa.heap.size := by have := hga.size; first | omega | (simp at this; omega)
                 have hBa : Below w1.heap.size w1 wa := by
                   first
                     | exact (hBq.drew).grown hga hsq (fun k hk => (ltO k hk).1)
                     | exact ((hBq.alloc hsq _).drew).grown hga (by first | omega | (simp <;> omega)) (fun k hk => (ltO k hk).1)
                     | exact hBn.grown hga hBn.size (fun k hk => (ltO k hk).1)
                     | exact (hBn.alloc hBn.size _).grown hga (by first | omega | (simp <;> omega)) (fun k hk => (ltO k hk).1)
                     | exact ((hBn.alloc hBn.size _).drew).grown hga (by first | omega | (simp <;> omega)) (fun k hk => (ltO k hk).1)
                 have sa : wa.cell? ⟨w.heap.size, 5, none⟩ = some (.string x.user) := (hBa.cell hgl).trans (((hBq.cell hgl).symm).trans cU)
                 have lta : ∀ k, Value.ownBlock (.slice Aa (4 + 4) ca) = some k → w1.heap.size ≤ k ∧ k < wa.heap.size := oa.lt)
              | (refine step_append_fr _ rfl _ _ rfl w1.heap.size Aa (4 + 4) ca ([4, x.cmd] ++ nb x.to.port 2 ++ odQ x) rfl ?_ At x.user.size ct (sInts x.user) rfl ?_ (by omega) ?_ ?_
                 · first
                   | exact oa
                   | exact oa.alloc _
                   | exact own_below (by exact oa) hbn
                   | exact own_below (by exact oa.alloc _) hbn
                   | exact (own_below (by exact oa) hbn).alloc _
                 · first
                   | exact Rd.own ot
                   | exact (Rd.own ot).alloc _
                   | exact Rd.own (own_two oO (by first | omega | (simp <;> omega)) (by exact ot) hga)
                   | exact Rd.own (own_two oO (by first | omega | (simp <;> omega)) (by exact ot.alloc _) hga)
                   | exact (Rd.own (own_two oO (by first | omega | (simp <;> omega)) (by exact ot) hga)).alloc _
                 · first | omega | (simp <;> omega)
                 intro Ab cb wb ob hgb hfb
                 have hsb : w1.heap.size ≤ wb.heap.size := by have := hgb.size; first | omega | (simp at this; omega)
                 have hBb : Below w1.heap.size w1 wb := by
                   first
                     | exact hBa.grown hgb hBa.size (fun k hk => (lta k hk).1)
                     | exact (hBa.alloc hBa.size _).grown hgb (by first | omega | (simp <;> omega)) (fun k hk => (lta k hk).1)
                     | exact ((hBa.alloc hBa.size _).drew).grown hgb (by first | omega | (simp <;> omega)) (fun k hk => (lta k hk).1)
                     | exact hBn.grown hgb hBn.size (fun k hk => (lta k hk).1)
                     | exact (hBn.alloc hBn.size _).grown hgb (by first | omega | (simp <;> omega)) (fun k hk => (lta k hk).1)
                     | exact ((hBn.alloc hBn.size _).drew).grown hgb (by first | omega | (simp <;> omega)) (fun k hk => (lta k hk).1)
                 have sb : wb.cell? ⟨w.heap.size, 5, none⟩ = some (.string x.user) := (hBb.cell hgl).trans (((hBq.cell hgl).symm).trans cU)
                 have ltb : ∀ k, Value.ownBlock (.slice Ab (4 + 4 + x.user.size) cb) = some k → w1.heap.size ≤ k ∧ k < wb.heap.size := ob.lt)
              | (refine step_append_rd _ rfl _ _ rfl w1.heap.size Ab (4 + 4 + x.user.size) cb ([4, x.cmd] ++ nb x.to.port 2 ++ odQ x ++ sInts x.user) rfl ?_ (some ⟨_, 0, none⟩) 1 1 [0] rfl ?_ (by omega) ?_ ?_
                 · first
                   | exact ob
                   | exact ob.alloc _
                 · have Z := fun wz : World => rd_lit wz 3 #[.int .i64 0] 1 (by omega) rfl
                   first
                   | exact Z _
                   | exact Rd.grown (by exact Z _) hgb (.inr (fun h => by simp only [Option.map_some] at h; have := (lta _ h.symm).2; first | omega | (simp at this; omega)))
                   | exact Rd.grown (Rd.below (by exact Z _) hbn) hgb (.inr (fun h => by simp only [Option.map_some] at h; have := (lta _ h.symm).2; first | omega | (simp at this; omega)))
                   | exact Rd.grown (Rd.below (Rd.grown (by exact Z _) hga (.inr (fun h => by simp only [Option.map_some] at h; have := (ltO _ h.symm).2; first | omega | (simp at this; omega)))) hbn) hgb (.inr (fun h => by simp only [Option.map_some] at h; rcases hfa _ h.symm with h | h; (have := (ltO _ h).2; first | omega | (simp at this; omega)); (first | omega | (simp at h; omega))))
                   | exact Rd.grown (Rd.grown (Rd.below (by exact Z _) hbn) hga (.inr (fun h => by simp only [Option.map_some] at h; have := (ltO _ h.symm).2; first | omega | (simp at this; omega)))) hgb (.inr (fun h => by simp only [Option.map_some] at h; rcases hfa _ h.symm with h | h; (have := (ltO _ h).2; first | omega | (simp at this; omega)); (first | omega | (simp at h; omega))))
                   | exact Rd.grown (Rd.grown (by exact Z _) hga (.inr (fun h => by simp only [Option.map_some] at h; have := (ltO _ h.symm).2; first | omega | (simp at this; omega)))) hgb (.inr (fun h => by simp only [Option.map_some] at h; rcases hfa _ h.symm with h | h; (have := (ltO _ h).2; first | omega | (simp at this; omega)); (first | omega | (simp at h; omega))))
                 · first | omega | (simp <;> omega)
                 intro Ac cc wc' oc hgc
                 have hBc : Below w1.heap.size w1 wc' := by
                   first
                     | exact hBb.grown hgc hBb.size (fun k hk => (ltb k hk).1)
                     | exact (hBb.alloc hBb.size _).grown hgc (by first | omega | (simp <;> omega)) (fun k hk => (ltb k hk).1)
                     | exact ((hBb.alloc hBb.size _).drew).grown hgc (by first | omega | (simp <;> omega)) (fun k hk => (ltb k hk).1)
                 have sc : wc'.cell? ⟨w.heap.size, 5, none⟩ = some (.string x.user) := (hBc.cell hgl).trans (((hBq.cell hgl).symm).trans cU)))
          all_goals
            go_wp2_with fail
            go_meet
            exact ⟨Ac, _, cc, rfl, by omega, oc, hBc⟩
        case rest =>
          obtain ⟨A7, n7, c7, rfl, rfl, o7, hB7⟩ := hcut
          obtain ⟨w7, rfl⟩ : ∃ w7 : World, w7 = wc := ⟨_, rfl⟩
          have hBw := bstep hB1 hB7
          have hs7 := hB7.size
          have k7 := (hB7.block _ hgl).trans k1'.out
          clear hBq oO rQ c0 c1 c2 c3 c4 cU k2
          obtain ⟨c0, c1, c2, c3, c4, c5⟩ := six_cells k7
          rcases hkind with ⟨hk, h4⟩ | hk
          · have hkb : (x.to.kind == 3) = false := by rw [hk]; rfl
            have eB : odB x = [4, x.cmd] ++ nb x.to.port 2 ++ odQ x ++ sInts x.user ++ [0] := by
              unfold odB odN
              rw [if_neg (by omega), List.append_nil]
            clear hk
            go_wp2_with fail
            go_ret2
            exact ⟨A7, _, c7, rfl, by rw [eB]; exact own_base o7 (by omega), hBw⟩
          · have hkb : (x.to.kind == 3) = true := by rw [hk]; rfl
            have eB : odB x = [4, x.cmd] ++ nb x.to.port 2 ++ odQ x ++ sInts x.user ++ [0] ++ sInts x.to.name ++ [0] := by
              unfold odB odN
              rw [if_pos hk, ← List.append_assoc]
            clear hk
            go_wp2_with fail
            refine (textBytes_fn x.to.name _ (by omega)).mono ?_
            rintro e w8 ⟨A8, n8, c8, rfl, o8, hb8⟩
            obtain rfl : n8 = x.to.name.size := by have := (Rd.own o8).ilen; rw [sInts_length] at this; omega
            replace o7 := own_below o7 hb8
            have hB8 := bstep hBw hb8
            have hs8 := hb8.size
            have hr8 := Rd.own o8
            clear hb8 hBw o8 k7 hB7
            go_wp2_with (at_builtin; refine wpList_append_rd _ rfl _ _ rfl w1.heap.size A7 (9 + x.user.size) c7 ([4, x.cmd] ++ nb x.to.port 2 ++ odQ x ++ sInts x.user ++ [0]) rfl o7 A8 x.to.name.size c8 (sInts x.to.name) rfl hr8 (by omega) (by omega) ?_)
            intro A9 c9 w9 o9 hg9
            have hB9 := bgrow hB8 hg9 fun k hk => by have := own_frees o7 k hk; omega
            have hs9 := hg9.size
            have o9' : (w9.alloc (.cells #[.int .i64 0] 3)).ownsRow w1.heap.size 3 1 (.slice A9 (9 + x.user.size + x.to.name.size) c9) (9 + x.user.size + x.to.name.size) (ints ([4, x.cmd] ++ nb x.to.port 2 ++ odQ x ++ sInts x.user ++ [0] ++ sInts x.to.name)) := by simpa [ints] using o9.alloc (.cells #[.int .i64 0] 3)
            have hr9 := rd_lit w9 3 #[.int .i64 0] 1 (by omega) rfl
            clear hg9 hB8 hr8 o7
            go_wp2_with (at_builtin; refine wpList_append_rd _ rfl _ _ rfl w1.heap.size A9 (9 + x.user.size + x.to.name.size) c9 ([4, x.cmd] ++ nb x.to.port 2 ++ odQ x ++ sInts x.user ++ [0] ++ sInts x.to.name) rfl o9' (some ⟨w9.heap.size, 0, none⟩) 1 1 [0] rfl hr9 (by omega) (by simp; omega) ?_)
            intro A10 c10 w10 o10 hg10
            have hB10 := bgrow (bstep hB9 ((Below.refl _ _).alloc (Nat.le_refl _) (.cells #[.int .i64 0] 3))) hg10 fun k hk => by have := own_frees o9' k hk; omega
            go_wp2_with fail
            go_ret2
            exact ⟨A10, _, c10, rfl, by rw [eB]; have h := own_base (B := w.heap.size) o10 (by omega); simpa [ints] using h, hB10⟩
set_option maxRecDepth 20000 in
set_option maxHeartbeats 8000000 in
theorem l4Bytes_any (x : Od) (A : Option Addr) (n c : Nat) (w : World) (hx : Rd w A n (ints x.to.quad)) (hv : odV x = true) :
    Calls Tryd.prog 60 #[odVal x A n c] w (RetI w (odB x)) := by
  have k0 := heap_alloc_new w (.cells #[.int .i64 x.cmd, .int .i64 x.to.kind, .slice A n c, .string x.to.name, .int .i64 x.to.port, .string x.user] 39)
  have hB0 : Below w.heap.size w (w.alloc (.cells #[.int .i64 x.cmd, .int .i64 x.to.kind, .slice A n c, .string x.to.name, .int .i64 x.to.port, .string x.user] 39)) := by go_grown
  obtain ⟨_, hport, hus, hnm, hkind⟩ := odV_facts hv
  have hl := hx.ilen
  replace hv := Lib.hid hv
  go_enter Tryd.func60, Tryd.ntmps60
  go_upto_region 1 with fail
  refine code_gen fun w1 hw1 => ?_
  have k1 := k0
  have hB1 := hB0
  rw [← hw1] at k1 hB1
  have hgl : w.heap.size < w1.heap.size := by rw [hw1]; simp
  clear hw1 k0 hB0
  replace hx := hx.below hB1
  go_cut [3] (fun v wx => ∃ A1 c1, v = .slice A1 4 c1 ∧ wx.ownsRow w1.heap.size 3 1 (.slice A1 4 c1) 4 (ints ([4, x.cmd] ++ nb x.to.port 2)) ∧ Below w1.heap.size w1 wx)
  case first =>
    obtain ⟨c0, c1, c2, c3, c4, c5⟩ := six_cells k1
    replace k1 := Lib.hid k1
    go_region_held3 (fun w' => w'.cell? ⟨w.heap.size, 0, none⟩ = some (.int .i64 x.cmd) ∧ w'.cell? ⟨w.heap.size, 4, none⟩ = some (.int .i64 x.to.port))
      (first
        | go_keep
        | exact ⟨sn0, sn4⟩
        | exact ⟨sa0, sa4⟩)
      (first
        | (go_at_call 88
           refine (l1Number_any x.to.port (by omega) 2 (by omega) _).mono ?_
           rintro e wn ⟨An, nn, cn, rfl, on, hbn⟩
           obtain rfl : nn = 2 := by have := (Rd.own on).ilen; rw [nb_length] at this; omega
           have hBn : Below w1.heap.size w1 wn := bstep (by go_grown) hbn
           have hsn : w1.heap.size ≤ wn.heap.size := hBn.size
           have sn0 : wn.cell? ⟨w.heap.size, 0, none⟩ = some (.int .i64 x.cmd) := (hBn.cell hgl).trans c0
           have sn4 : wn.cell? ⟨w.heap.size, 4, none⟩ = some (.int .i64 x.to.port) := (hBn.cell hgl).trans c4)
        | (refine step_append_rd _ rfl _ _ rfl w1.heap.size (some ⟨_, 0, none⟩) 2 2 [4, x.cmd] rfl ?_ An 2 cn (nb x.to.port 2) rfl ?_ (by omega) ?_ ?_
           · first
             | exact own_below (by exact own_cells w1 3 #[.int .i64 4, .int .i64 x.cmd] 2 (by omega) rfl) hbn
             | exact own_base (own_cells wn 3 #[.int .i64 4, .int .i64 x.cmd] 2 (by omega) rfl) hsn
           · first
             | exact Rd.own on
             | exact (Rd.own on).alloc _
           · first | omega | (simp <;> omega)
           intro A4 c4' w4 ho4 hg4
           replace hg4 : World.grownBy _ w4 (some _) := hg4
           have hB4 : Below w1.heap.size w1 w4 := by
             first
               | (refine hBn.grown hg4 hsn ?_; intro k hk; simp at hk; omega)
               | (refine (hBn.alloc hsn _).grown hg4 (by first | omega | (simp <;> omega)) ?_; intro k hk; simp at hk; omega)
               | (refine ((hBn.alloc hsn _).drew).grown hg4 (by first | omega | (simp <;> omega)) ?_; intro k hk; simp at hk; omega)
           have sa0 : w4.cell? ⟨w.heap.size, 0, none⟩ = some (.int .i64 x.cmd) := (hB4.cell hgl).trans c0
           have sa4 : w4.cell? ⟨w.heap.size, 4, none⟩ = some (.int .i64 x.to.port) := (hB4.cell hgl).trans c4))
    all_goals
      go_wp2_with fail
      go_meet
      exact ⟨A4, c4', rfl, ho4, hB4⟩
  case rest =>
    obtain ⟨Ao, co, rfl, oO, hBc⟩ := hcut
    obtain ⟨w2, rfl⟩ : ∃ w2 : World, w2 = wc := ⟨_, rfl⟩
    replace hx := hx.below hBc
    have k2 := (hBc.block _ hgl).trans k1
    have hB2 := bstep hB1 hBc
    have hs2 := hBc.size
    have hgl2 : w.heap.size < w2.heap.size := by omega
    clear hBc hB1 k1
    obtain ⟨c0, c1, c2, c3, c4, c5⟩ := six_cells k2
    rcases hkind with ⟨hk, h4⟩ | hk
    · have hk1 : (x.to.kind == 1) = true := by rw [hk]; rfl
      have hk3 : (x.to.kind == 3) = false := by rw [hk]; rfl
      obtain rfl : n = 4 := by omega
      have eB : odB x = [4, x.cmd] ++ nb x.to.port 2 ++ x.to.quad ++ sInts x.user ++ [0] := by
        unfold odB odN odQ
        rw [if_neg (by omega), if_neg (by omega), List.append_nil]
      clear hk hl
      go_wp2_with (at_builtin; refine wpList_append_rd _ rfl _ _ rfl w1.heap.size Ao 4 co ([4, x.cmd] ++ nb x.to.port 2) rfl oO A 4 c x.to.quad rfl hx (by omega) (by omega) ?_)
      intro A3 c3' w3 o3 hg3
      have hB3 := bgrow (w1 := _) hB2 hg3 fun k hk => by have := own_frees oO k hk; omega
      have hs3 : w2.heap.size ≤ w3.heap.size := by have := hg3.size; first | omega | (simp at this; omega)
      have k3 := (hg3.block w.heap.size (by first | omega | (simp <;> omega)) (fun h => by have := own_frees oO _ h.symm; omega)).trans k2
      obtain ⟨c0, c1, c2, c3, c4, c5⟩ := six_cells k3
      replace o3 : w3.ownsRow w1.heap.size 3 1 (.slice A3 (4 + 4) c3') (4 + 4) (ints (([4, x.cmd] ++ nb x.to.port 2) ++ x.to.quad)) := by simpa [ints] using o3
      replace k3 := Lib.hid k3
      clear hg3 hx
      go_wp2_with fail
      refine (l1Text_any x.user _ (by omega)).mono ?_
      rintro e w4 ⟨A4, n4, c4', rfl, o4, hb4⟩
      obtain rfl : n4 = x.user.size := by have := (Rd.own o4).ilen; rw [sInts_length] at this; omega
      have o3' := own_below o3 hb4
      have hB4 := bstep hB3 hb4
      have hs4 := hb4.size
      have k4 := (hb4.block w.heap.size (by omega)).trans k3.out
      have hr4 := Rd.own o4
      clear hb4 o4 c0 c1 c2 c3 c4 c5 k3
      go_wp2_with (at_builtin; refine wpList_append_rd _ rfl _ _ rfl w1.heap.size A3 (4 + 4) c3' (([4, x.cmd] ++ nb x.to.port 2) ++ x.to.quad) rfl o3' A4 x.user.size c4' (sInts x.user) rfl hr4 (by omega) (by omega) ?_)
      intro A5 c5' w5 o5 hg5
      have hB5 := bgrow hB4 hg5 fun k hk => by have := own_frees o3' k hk; omega
      have hs5 := hg5.size
      have k5 := (hg5.block w.heap.size (by omega) (fun h => by have := own_frees o3' _ h.symm; omega)).trans k4
      have k5l := (heap_alloc_old w5 (.cells #[.int .i64 0] 3) (show w.heap.size < w5.heap.size by omega)).trans k5
      have o5' : (w5.alloc (.cells #[.int .i64 0] 3)).ownsRow w1.heap.size 3 1 (.slice A5 (4 + 4 + x.user.size) c5') (4 + 4 + x.user.size) (ints (([4, x.cmd] ++ nb x.to.port 2) ++ x.to.quad ++ sInts x.user)) := by simpa [ints] using o5.alloc (.cells #[.int .i64 0] 3)
      have hr5 := rd_lit w5 3 #[.int .i64 0] 1 (by omega) rfl
      have hB5l := hB5.alloc (by omega) (.cells #[.int .i64 0] 3)
      clear hg5 hB4 hr4 o3 o3' k4
      go_wp2_with (at_builtin; refine wpList_append_rd _ rfl _ _ rfl w1.heap.size A5 (4 + 4 + x.user.size) c5' (([4, x.cmd] ++ nb x.to.port 2) ++ x.to.quad ++ sInts x.user) rfl o5' (some ⟨w5.heap.size, 0, none⟩) 1 1 [0] rfl hr5 (by omega) (by simp; omega) ?_)
      intro A6 c6' w6 o6 hg6
      have hB6 := bgrow hB5l hg6 fun k hk => by have := own_frees o5' k hk; omega
      have hs6 : w5.heap.size ≤ w6.heap.size := by have := hg6.size; simp at this; omega
      have k6 := (hg6.block w.heap.size (by simp; omega) (fun h => by have := own_frees o5' _ h.symm; omega)).trans k5l
      obtain ⟨c0, c1, c2, c3, c4, c5⟩ := six_cells k6
      clear hg6 hr5 o5 o5' k5 k5l k6 hB5 hB5l
      go_wp2_with fail
      go_ret
      exact ⟨A6, _, c6', rfl, by rw [eB]; have h := own_base (B := w.heap.size) o6 (by omega); simpa [ints] using h, hB6⟩
    · have hk1 : (x.to.kind == 1) = false := by rw [hk]; rfl
      have hk3 : (x.to.kind == 3) = true := by rw [hk]; rfl
      have eB : odB x = [4, x.cmd] ++ nb x.to.port 2 ++ [0, 0, 0, 1] ++ sInts x.user ++ [0] ++ sInts x.to.name ++ [0] := by
        unfold odB odN odQ
        rw [if_pos hk, if_pos hk, ← List.append_assoc]
      clear hk hl
      have oOl := oO.alloc (.cells #[.int .i64 0, .int .i64 0, .int .i64 0, .int .i64 1] 3)
      have hlit := rd_lit w2 3 #[.int .i64 0, .int .i64 0, .int .i64 0, .int .i64 1] 4 (by omega) rfl
      have hBl := hB2.alloc (by omega) (.cells #[.int .i64 0, .int .i64 0, .int .i64 0, .int .i64 1] 3)
      have k2l := (heap_alloc_old w2 (.cells #[.int .i64 0, .int .i64 0, .int .i64 0, .int .i64 1] 3) hgl2).trans k2
      go_wp2_with (at_builtin; refine wpList_append_rd _ rfl _ _ rfl w1.heap.size Ao 4 co ([4, x.cmd] ++ nb x.to.port 2) rfl oOl (some ⟨w2.heap.size, 0, none⟩) 4 4 [0, 0, 0, 1] rfl hlit (by omega) (by simp; omega) ?_)
      intro A3 c3' w3 o3 hg3
      have hB3 := bgrow (w1 := _) hBl hg3 fun k hk => by have := own_frees oO k hk; omega
      have hs3 : w2.heap.size ≤ w3.heap.size := by have := hg3.size; first | omega | (simp at this; omega)
      have k3 := (hg3.block w.heap.size (by first | omega | (simp <;> omega)) (fun h => by have := own_frees oO _ h.symm; omega)).trans k2l
      obtain ⟨c0, c1, c2, c3, c4, c5⟩ := six_cells k3
      replace o3 : w3.ownsRow w1.heap.size 3 1 (.slice A3 (4 + 4) c3') (4 + 4) (ints (([4, x.cmd] ++ nb x.to.port 2) ++ [0, 0, 0, 1])) := by simpa [ints] using o3
      replace k3 := Lib.hid k3
      clear hg3 hx
      go_wp2_with fail
      refine (l1Text_any x.user _ (by omega)).mono ?_
      rintro e w4 ⟨A4, n4, c4', rfl, o4, hb4⟩
      obtain rfl : n4 = x.user.size := by have := (Rd.own o4).ilen; rw [sInts_length] at this; omega
      have o3' := own_below o3 hb4
      have hB4 := bstep hB3 hb4
      have hs4 := hb4.size
      have k4 := (hb4.block w.heap.size (by omega)).trans k3.out
      have hr4 := Rd.own o4
      clear hb4 o4 c0 c1 c2 c3 c4 c5 k3
      go_wp2_with (at_builtin; refine wpList_append_rd _ rfl _ _ rfl w1.heap.size A3 (4 + 4) c3' (([4, x.cmd] ++ nb x.to.port 2) ++ [0, 0, 0, 1]) rfl o3' A4 x.user.size c4' (sInts x.user) rfl hr4 (by omega) (by omega) ?_)
      intro A5 c5' w5 o5 hg5
      have hB5 := bgrow hB4 hg5 fun k hk => by have := own_frees o3' k hk; omega
      have hs5 := hg5.size
      have k5 := (hg5.block w.heap.size (by omega) (fun h => by have := own_frees o3' _ h.symm; omega)).trans k4
      have k5l := (heap_alloc_old w5 (.cells #[.int .i64 0] 3) (show w.heap.size < w5.heap.size by omega)).trans k5
      have o5' : (w5.alloc (.cells #[.int .i64 0] 3)).ownsRow w1.heap.size 3 1 (.slice A5 (4 + 4 + x.user.size) c5') (4 + 4 + x.user.size) (ints (([4, x.cmd] ++ nb x.to.port 2) ++ [0, 0, 0, 1] ++ sInts x.user)) := by simpa [ints] using o5.alloc (.cells #[.int .i64 0] 3)
      have hr5 := rd_lit w5 3 #[.int .i64 0] 1 (by omega) rfl
      have hB5l := hB5.alloc (by omega) (.cells #[.int .i64 0] 3)
      clear hg5 hB4 hr4 o3 o3' k4
      go_wp2_with (at_builtin; refine wpList_append_rd _ rfl _ _ rfl w1.heap.size A5 (4 + 4 + x.user.size) c5' (([4, x.cmd] ++ nb x.to.port 2) ++ [0, 0, 0, 1] ++ sInts x.user) rfl o5' (some ⟨w5.heap.size, 0, none⟩) 1 1 [0] rfl hr5 (by omega) (by simp; omega) ?_)
      intro A6 c6' w6 o6 hg6
      have hB6 := bgrow hB5l hg6 fun k hk => by have := own_frees o5' k hk; omega
      have hs6 : w5.heap.size ≤ w6.heap.size := by have := hg6.size; simp at this; omega
      have k6 := (hg6.block w.heap.size (by simp; omega) (fun h => by have := own_frees o5' _ h.symm; omega)).trans k5l
      obtain ⟨c0, c1, c2, c3, c4, c5⟩ := six_cells k6
      clear hg6 hr5 o5 o5' k5 k5l k6 hB5 hB5l
      have o6' : w6.ownsRow w1.heap.size 3 1 (.slice A6 (4 + 4 + x.user.size + 1) c6') (4 + 4 + x.user.size + 1) (ints (([4, x.cmd] ++ nb x.to.port 2) ++ [0, 0, 0, 1] ++ sInts x.user ++ [0])) := by simpa [ints] using o6
      go_wp2_with fail
      refine (l1Text_any x.to.name _ (by omega)).mono ?_
      rintro e w7 ⟨A7, n7, c7', rfl, o7, hb7⟩
      obtain rfl : n7 = x.to.name.size := by have := (Rd.own o7).ilen; rw [sInts_length] at this; omega
      replace o6' := own_below o6' hb7
      have hB7 := bstep hB6 hb7
      have hs7 := hb7.size
      have hr7 := Rd.own o7
      clear hb7 o7 c0 c1 c2 c3 c4 c5 hB6 o6
      go_wp2_with (at_builtin; refine wpList_append_rd _ rfl _ _ rfl w1.heap.size A6 (4 + 4 + x.user.size + 1) c6' (([4, x.cmd] ++ nb x.to.port 2) ++ [0, 0, 0, 1] ++ sInts x.user ++ [0]) rfl o6' A7 x.to.name.size c7' (sInts x.to.name) rfl hr7 (by omega) (by omega) ?_)
      intro A8 c8' w8 o8 hg8
      have hB8 := bgrow hB7 hg8 fun k hk => by have := own_frees o6' k hk; omega
      have hs8 := hg8.size
      have o8' : (w8.alloc (.cells #[.int .i64 0] 3)).ownsRow w1.heap.size 3 1 (.slice A8 (4 + 4 + x.user.size + 1 + x.to.name.size) c8') (4 + 4 + x.user.size + 1 + x.to.name.size) (ints (([4, x.cmd] ++ nb x.to.port 2) ++ [0, 0, 0, 1] ++ sInts x.user ++ [0] ++ sInts x.to.name)) := by simpa [ints] using o8.alloc (.cells #[.int .i64 0] 3)
      have hr8 := rd_lit w8 3 #[.int .i64 0] 1 (by omega) rfl
      clear hg8 hB7 hr7 o6'
      go_wp2_with (at_builtin; refine wpList_append_rd _ rfl _ _ rfl w1.heap.size A8 (4 + 4 + x.user.size + 1 + x.to.name.size) c8' (([4, x.cmd] ++ nb x.to.port 2) ++ [0, 0, 0, 1] ++ sInts x.user ++ [0] ++ sInts x.to.name) rfl o8' (some ⟨w8.heap.size, 0, none⟩) 1 1 [0] rfl hr8 (by omega) (by simp; omega) ?_)
      intro A9 c9' w9 o9 hg9
      have hB9 := bgrow (bstep hB8 ((Below.refl _ _).alloc (Nat.le_refl _) (.cells #[.int .i64 0] 3))) hg9 fun k hk => by have := own_frees o8' k hk; omega
      go_wp2_with fail
      go_ret
      exact ⟨A9, _, c9', rfl, by rw [eB]; have h := own_base (B := w.heap.size) o9 (by omega); simpa [ints] using h, hB9⟩
theorem oldBytes_spec (x : Od) (A : Option Addr) (n c : Nat) (w : World) (hx : Rd w A n (ints x.to.quad)) (hs : x.to.name.size ≤ 4000000) (hu : x.user.size ≤ 4000000) (zs : List Int) (b : Bool) (h : odW x = (zs, b)) :
    Calls Tryd.prog 29 #[odVal x A n c] w (RetIB w zs b) := by
  have k0 := heap_alloc_new w (.cells #[.int .i64 x.cmd, .int .i64 x.to.kind, .slice A n c, .string x.to.name, .int .i64 x.to.port, .string x.user] 39)
  obtain ⟨r, hr⟩ : ∃ r, odV x = r := ⟨_, rfl⟩
  unfold odW at h
  rw [hr] at h
  replace hr := Lib.hid hr
  go_enter Tryd.func29, Tryd.ntmps29
  go_wp2_with fail
  have hB0 : Below w.heap.size w (w.alloc (.cells #[.int .i64 x.cmd, .int .i64 x.to.kind, .slice A n c, .string x.to.name, .int .i64 x.to.port, .string x.user] 39)) := by go_grown
  refine (l4Ok_any x A n c _ (hx.below hB0) hs hu _ hr.out).mono ?_
  rintro e w1 ⟨rfl, hb1⟩
  have hB1 := bstep hB0 hb1
  have hsz := hB1.size
  replace hx := hx.below hB1
  replace k0 := (hb1.block _ (by simp)).trans k0
  obtain ⟨c0, c1, c2, c3, c4, c5⟩ := six_cells k0
  clear hb1 hB0 k0
  cases r
  · simp only [Bool.false_eq_true, if_false, Prod.mk.injEq] at h
    obtain ⟨rfl, rfl⟩ := h
    go_wp2_with fail
    go_ret2
    exact ⟨_, 0, 0, rfl, own_base (own_empty w1) hsz, by go_grown⟩
  · simp only [if_true, Prod.mk.injEq] at h
    obtain ⟨rfl, rfl⟩ := h
    go_wp2_with fail
    refine (l4Bytes_any x A n c _ hx hr.out).mono ?_
    rintro e w2 ⟨A2, n2, c2', rfl, ho2, hb2⟩
    go_wp2_with fail
    go_ret2
    exact ⟨A2, n2, c2', rfl, own_base ho2 hsz, bstep hB1 hb2⟩
end Go.Proofs.YtjlgkepbflcefaaDoor
