/- The text of an address, in the program and in the reference. No condition. -/
import Derived.Test.YthgfldabeaepaaaGreatDoorAd
import Derived.Test.YthgfldabeaepaaaGreatDoorQFI
namespace Go.Proofs.YthgfldabeaepaaaGreatDoor
open Go.RowKit Go.Sort
theorem itoa_port {p : Int} (h : 0 ≤ p ∧ p ≤ 65535) : (Lib.itoa p).length ≤ 5 := by
  obtain ⟨u, rfl⟩ := Int.eq_ofNat_of_zero_le h.1
  rw [itoa_nat, Lib.decDigits_length]
  by_cases h0 : u < 10
  · rw [Lib.nDigits_small h0]; omega
  · rw [Lib.nDigits_big h0]
    by_cases h1 : u / 10 < 10
    · rw [Lib.nDigits_small h1]; omega
    · rw [Lib.nDigits_big h1]
      by_cases h2 : u / 10 / 10 < 10
      · rw [Lib.nDigits_small h2]; omega
      · rw [Lib.nDigits_big h2]
        by_cases h3 : u / 10 / 10 / 10 < 10
        · rw [Lib.nDigits_small h3]; omega
        · rw [Lib.nDigits_big h3, Lib.nDigits_small (by omega)]; omega
theorem hostT_short {a : Ad} (h : adV a = true) : (hostT a).length ≤ 20 := by
  have hn := adV_name h
  unfold hostT
  split
  · rename_i hk
    obtain ⟨_, h1 | h1⟩ := adV_true.1 h
    · have := (quadT_dec h1.2.1).1
      omega
    · omega
  · rw [lets_length]
    exact hn
theorem adT_short {a : Ad} (h : adV a = true) : (adT a).length ≤ 26 ∧ 1 ≤ (adT a).length := by
  have h1 := hostT_short h
  have h2 := itoa_port (adV_true.1 h).1
  unfold adT
  rw [List.length_append, List.length_cons]
  omega
theorem adS_short (a : Ad) : (adS a).length ≤ 26 := by
  unfold adS
  split
  · rename_i h
    exact (adT_short h).1
  · simp
theorem adT_txt (a : Ad) : txt (adT a) = txt (hostT a) ++ txt [58] ++ txt (Lib.itoa a.port) := by
  unfold adT
  rw [txt_append, txt_append]
  congr 1
  simp
theorem l3Host_any (a : Ad) (A : Option Addr) (n c : Nat) (w : World) (hx : Rd w A n (ints a.quad)) (hv : adV a = true) :
    Calls Tryz.prog 27 #[adVal a A n c] w fun e w' => e = .returned (.string (txt (hostT a))) ∧ Below w.heap.size w w' := by
  by_cases h1 : a.kind = 1
  · have h1' : (a.kind == 1) = true := by simpa using h1
    have hq : qv a.quad = true := by
      obtain ⟨_, h | h⟩ := adV_true.1 hv
      · exact h.2.1
      · omega
    rw [show hostT a = quadT a.quad from if_pos h1]
    clear h1 hv
    go_enter Tryz.func27, Tryz.ntmps27
    go_wp2_with fail
    refine calls_gen fun wA hwA => ?_
    have hBA : Below w.heap.size w wA := by rw [hwA]; go_grown
    clear hwA
    refine (l2Quad_any _ _ _ _ _ (hx.below hBA) hq).mono ?_
    rintro e w2 ⟨rfl, hb⟩
    have hB2 : Below w.heap.size w w2 := bstep hBA hb
    go_wp2_with fail
    go_ret
    exact ⟨rfl, hB2⟩
  · have h1' : (a.kind == 1) = false := by simpa using h1
    rw [show hostT a = lets a.name from if_neg h1, txt_lets]
    clear h1 hv
    go_enter Tryz.func27, Tryz.ntmps27
    go_wp2_with fail
    go_ret
    exact ⟨rfl, by go_grown⟩
theorem hostText_any (a : Ad) (A : Option Addr) (n c : Nat) (w : World) (hx : Rd w A n (ints a.quad)) (hv : adV a = true) (hP : EnvP w) :
    Calls Tryz.prog 44 #[adVal a A n c] w fun e w' => e = .returned (.string (txt (hostT a))) ∧ Below w.heap.size w w' := by
  by_cases h1 : a.kind = 1
  · have h1' : (a.kind == 1) = true := by simpa using h1
    have hq : qv a.quad = true := by
      obtain ⟨_, h | h⟩ := adV_true.1 hv
      · exact h.2.1
      · omega
    rw [show hostT a = quadT a.quad from if_pos h1]
    clear h1 hv
    go_enter Tryz.func44, Tryz.ntmps44
    go_wp2_with fail
    refine calls_gen fun wA hwA => ?_
    have hBA : Below w.heap.size w wA := by rw [hwA]; go_grown
    clear hwA
    refine (quadText_fn _ _ _ _ _ (hx.below hBA) hq (hP.step hBA)).mono ?_
    rintro e w2 ⟨rfl, hb⟩
    have hB2 : Below w.heap.size w w2 := bstep hBA hb
    go_wp2_with fail
    go_ret
    exact ⟨rfl, hB2⟩
  · have h1' : (a.kind == 1) = false := by simpa using h1
    rw [show hostT a = lets a.name from if_neg h1, txt_lets]
    clear h1 hv
    go_enter Tryz.func44, Tryz.ntmps44
    go_wp2_with fail
    go_ret
    exact ⟨rfl, by go_grown⟩
set_option maxRecDepth 20000 in
set_option maxHeartbeats 2000000 in
theorem addressText_spec (a : Ad) (A : Option Addr) (n c : Nat) (w : World) (hx : Rd w A n (ints a.quad)) (hs : a.name.size ≤ 4000000) :
    Calls Tryz.prog 11 #[adVal a A n c] w fun e w' => e = .returned (.string (txt (adS a))) ∧ Below w.heap.size w w' := by
  obtain ⟨r, hr⟩ : ∃ r, adV a = r := ⟨_, rfl⟩
  obtain ⟨T, hT⟩ : ∃ T, txt (adS a) = T := ⟨_, rfl⟩
  rw [hT]
  replace hT := Lib.hid hT
  replace hr := Lib.hid hr
  go_enter Tryz.func11, Tryz.ntmps11
  go_wp2_with fail
  refine calls_gen fun wA hwA => ?_
  have k0 : wA.heap[w.heap.size]? = some (.cells #[.int .i64 a.kind, .slice A n c, .string a.name, .int .i64 a.port] 26 (0, 0)) := by
    rw [hwA]
    exact heap_alloc_new w _
  have hBA : Below w.heap.size w wA := by rw [hwA]; go_grown
  have hsA : wA.heap.size = w.heap.size + 1 := by rw [hwA]; simp
  clear hwA
  have hxA := hx.below hBA
  refine (addressValid_spec a A n c _ hxA hs _ hr.out).mono ?_
  rintro e w2 ⟨rfl, hb⟩
  have hB2 : Below w.heap.size w w2 := bstep hBA hb
  replace k0 := (hb.block _ (by omega)).trans k0
  have hx2 := hxA.below hb
  have hs2 := hb.size
  clear hb hBA hxA
  cases r with
  | false =>
    have e0 : adS a = [] := if_neg (by rw [hr.out]; decide)
    have hT0 := hT.out
    rw [e0] at hT0
    subst hT0
    go_wp2_with fail
    go_ret
    exact ⟨rfl, hB2⟩
  | true =>
    have hfin := hT.out
    rw [show adS a = adT a from if_pos hr.out, adT_txt] at hfin
    have hl0 := hostT_short hr.out
    have hport := (adV_true.1 hr.out).1
    have hl1 := itoa_port hport
    have q0 : ∀ (dd : Nat) (os : Array Obj), Calls Tryz.prog 27 #[adVal a A n c] (grow (redrawn w2 dd) os) fun e w'' => e = .returned (.string (txt (hostT a))) ∧ ∃ p : Regrown, w'' = grow (redrawn w2 p.d) p.os := fun dd os => Calls.regrown_of (l3Host_any a A n c _ (hx2.below (below_regrown w2 dd os)) hr.out)
    obtain ⟨pt, hpt⟩ := Int.eq_ofNat_of_zero_le hport.1
    have q1 : ∀ (dd : Nat) (os : Array Obj), Calls Tryz.prog 28 #[.int .i64 a.port] (grow (redrawn w2 dd) os) fun e w'' => e = .returned (.string (txt (Lib.itoa a.port))) ∧ ∃ p : Regrown, w'' = grow (redrawn w2 p.d) p.os := fun dd os => by
      rw [hpt, itoa_nat]
      exact Calls.regrown_of (l6Dec_any pt (by omega) _)
    rw [← txt_size] at hl0 hl1
    clear hpt
    generalize txt (hostT a) = T0 at hfin hl0 q0
    generalize txt (Lib.itoa a.port) = T1 at hfin hl1 q1
    replace hfin := Lib.hid hfin.symm
    obtain ⟨c0, c1, c2, c3⟩ := box_cells k0
    replace c0 := cell_regrown c0
    replace c1 := cell_regrown c1
    replace c2 := cell_regrown c2
    replace c3 := cell_regrown c3
    replace q0 := Lib.hid q0
    replace q1 := Lib.hid q1
    have n1 : ¬ 9223372036854775807 < T0.size + 1 := by omega
    have n2 : ¬ 9223372036854775807 < T0.size + 1 + T1.size := by omega
    clear hl0 hl1 hT hx hx2 hs
    go_wp2_with fail
    refine wp_region_quiet_below (by kernel_rfl) (by kernel_rfl) ?_
    repeat (quiet_step (first | (with_reducible exact q0.out _ _) | (with_reducible exact q1.out _ _)))
    refine wpQuiet_nil ?_
    intro _ hw'
    obtain ⟨⟨dq, osq⟩, hw''⟩ := hw'
    subst hw''
    have hBq := bstep hB2 (below_regrown w2 dq osq)
    go_wp2_with fail
    go_ret
    exact ⟨by rw [hfin.out]; rfl, hBq⟩
set_option maxRecDepth 20000 in
set_option maxHeartbeats 2000000 in
theorem addressText_fn (a : Ad) (A : Option Addr) (n c : Nat) (w : World) (hx : Rd w A n (ints a.quad)) (hv : adV a = true) (hP : EnvP w) :
    Calls Tryz.prog 26 #[adVal a A n c] w fun e w' => e = .returned (.string (txt (adT a))) ∧ Below w.heap.size w w' := by
  obtain ⟨T, hT⟩ : ∃ T, txt (adT a) = T := ⟨_, rfl⟩
  rw [hT]
  rw [adT_txt] at hT
  have k0 := heap_alloc_new w (.cells #[.int .i64 a.kind, .slice A n c, .string a.name, .int .i64 a.port] 26)
  have hB2 : Below w.heap.size w (w.alloc (.cells #[.int .i64 a.kind, .slice A n c, .string a.name, .int .i64 a.port] 26)) := by go_grown
  have hx2 := hx.below hB2
  have hP2 := hP.step hB2
  have hl0 := hostT_short hv
  have hport := (adV_true.1 hv).1
  have hl1 := itoa_port hport
  rw [← txt_size] at hl0 hl1
  obtain ⟨w2, hw2⟩ : ∃ w2, w2 = w.alloc (.cells #[.int .i64 a.kind, .slice A n c, .string a.name, .int .i64 a.port] 26) := ⟨_, rfl⟩
  rw [← hw2] at k0 hB2 hx2 hP2
  have q0 : ∀ (dd : Nat) (os : Array Obj), Calls Tryz.prog 44 #[adVal a A n c] (grow (redrawn w2 dd) os) fun e w'' => e = .returned (.string (txt (hostT a))) ∧ ∃ p : Regrown, w'' = grow (redrawn w2 p.d) p.os := fun dd os => Calls.regrown_of (hostText_any a A n c _ (hx2.below (below_regrown w2 dd os)) hv (hP2.step (below_regrown w2 dd os)))
  have q1 : ∀ (dd : Nat) (os : Array Obj), Calls Tryz.prog 34 #[.int .i64 a.port] (grow (redrawn w2 dd) os) fun e w'' => e = .returned (.string (txt (Lib.itoa a.port))) ∧ ∃ p : Regrown, w'' = grow (redrawn w2 p.d) p.os := fun dd os => Calls.regrown_of (itoa_any a.port (by omega) (by omega) _ (hP2.step (below_regrown w2 dd os)))
  generalize txt (hostT a) = T0 at hT hl0 q0
  generalize txt (Lib.itoa a.port) = T1 at hT hl1 q1
  obtain ⟨c0, c1, c2, c3⟩ := box_cells k0
  replace c0 := cell_regrown c0
  replace c1 := cell_regrown c1
  replace c2 := cell_regrown c2
  replace c3 := cell_regrown c3
  replace q0 := Lib.hid q0
  replace q1 := Lib.hid q1
  replace hT := Lib.hid hT
  have n1 : ¬ 9223372036854775807 < T0.size + 1 := by omega
  have n2 : ¬ 9223372036854775807 < T0.size + 1 + T1.size := by omega
  clear hl0 hl1 hx hx2 hv hP2 hP
  replace hw2 := Lib.hid hw2
  go_enter Tryz.func26, Tryz.ntmps26
  go_wp2_with fail
  have hw3 := hw2.out
  rw [← hw3]
  clear hw3 hw2
  refine wp_region_quiet_below (by kernel_rfl) (by kernel_rfl) ?_
  repeat (quiet_step (first | (with_reducible exact q0.out _ _) | (with_reducible exact q1.out _ _)))
  refine wpQuiet_nil ?_
  intro _ hw'
  obtain ⟨⟨dq, osq⟩, hw''⟩ := hw'
  subst hw''
  have hBq := bstep hB2 (below_regrown w2 dq osq)
  go_wp2_with fail
  go_ret
  exact ⟨by rw [← hT.out]; rfl, hBq⟩
theorem addressText_impl (a : Ad) (A : Option Addr) (n c : Nat) (w : World) (hx : Rd w A n (ints a.quad)) (hs : a.name.size ≤ 4000000) (hM : EnvM w) (hP : EnvP w) :
    Calls Tryz.prog 9 #[adVal a A n c] w fun e w' => e = .returned (.string (txt (adS a))) ∧ Below w.heap.size w w' := by
  obtain ⟨r, hr⟩ : ∃ r, adV a = r := ⟨_, rfl⟩
  obtain ⟨T, hT⟩ : ∃ T, txt (adS a) = T := ⟨_, rfl⟩
  rw [hT]
  replace hT := Lib.hid hT
  replace hr := Lib.hid hr
  go_enter Tryz.func9, Tryz.ntmps9
  go_wp2_with fail
  refine calls_gen fun wA hwA => ?_
  have k0 : wA.heap[w.heap.size]? = some (.cells #[.int .i64 a.kind, .slice A n c, .string a.name, .int .i64 a.port] 26 (0, 0)) := by
    rw [hwA]
    exact heap_alloc_new w _
  have hBA : Below w.heap.size w wA := by rw [hwA]; go_grown
  have hsA : wA.heap.size = w.heap.size + 1 := by rw [hwA]; simp
  clear hwA
  have hxA := hx.below hBA
  refine (addressValid_impl a A n c _ (hM.step hBA) hxA hs _ hr.out).mono ?_
  rintro e w2 ⟨rfl, hb⟩
  have hB2 : Below w.heap.size w w2 := bstep hBA hb
  replace k0 := (hb.block _ (by omega)).trans k0
  have hx2 := hxA.below hb
  clear hb hBA hxA
  cases r with
  | false =>
    have e0 : adS a = [] := if_neg (by rw [hr.out]; decide)
    have hT0 := hT.out
    rw [e0] at hT0
    subst hT0
    go_wp2_with fail
    go_ret
    exact ⟨rfl, hB2⟩
  | true =>
    have hT0 := hT.out
    rw [show adS a = adT a from if_pos hr.out] at hT0
    obtain ⟨c0, c1, c2, c3⟩ := box_cells k0
    go_wp2_with fail
    refine (addressText_fn a A n c _ hx2 hr.out (hP.step hB2)).mono ?_
    rw [hT0]
    rintro e w3 ⟨rfl, hb3⟩
    have hB3 := bstep hB2 hb3
    clear hT0 c0 c1 c2 c3
    go_wp2_with fail
    go_ret
    exact ⟨rfl, hB3⟩
end Go.Proofs.YthgfldabeaepaaaGreatDoor
