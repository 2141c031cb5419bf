/- The statement FnExactHelloPick: the program's HelloPick answers what the reference's answers, for all slices. No condition. -/
import Derived.Test.YtfhadfcdfeancaaRow
import Derived.Test.YtfhadfcdfeancaaMeth
namespace Go.Proofs.Ytfhadfcdfeancaa
open Go.ChangeShapes Go.WideShapes Go.ChangeAt Go.RowKit
open Go.ChangeMaps (open_string shut_string)

set_option maxHeartbeats 2000000 in
theorem walk_FnExactHelloPick (a0 : Option Addr) (n0 c0 : Nat) (z0 : List Int) (a1 : Option Addr) (n1 c1 : Nat) (z1 : List Int) (w : World) (w0 : Rd w a0 n0 (ints z0) ∧ n0 ≤ c0 ∧ c0 ≤ maxLen ∧ ∀ x ∈ z0, (Lit.int .i64 x).wf = true) (w1 : Rd w a1 n1 (ints z1) ∧ n1 ≤ c1 ∧ c1 ≤ maxLen ∧ ∀ x ∈ z1, (Lit.int .i64 x).wf = true) : Calls Try.prog 13 #[.slice a0 n0 c0, .slice a1 n1 c1] w fun e w' => e = .returned (.bool true) ∧ Below w.heap.size w w' := by
  have hx0 := w0.1
  clear w0
  have hm0 := hx0.max
  have hx1 := w1.1
  clear w1
  have hm1 := hx1.max
  obtain ⟨r, hr⟩ : ∃ r, pickM z0 z1 = r := ⟨_, rfl⟩
  replace hr := Lib.hid hr
  have hne : (r != r) = false := by simp
  by_cases hbig0 : n0 ≤ 1048576
  case neg =>
    go_enter Try.func13, Try.ntmps13
    go_wp2
    go_ret
    exact ⟨rfl, Below.refl _ _⟩
  by_cases hbig1 : n1 ≤ 1048576
  case neg =>
    go_enter Try.func13, Try.ntmps13
    go_wp2
    go_ret
    exact ⟨rfl, Below.refl _ _⟩
  go_enter Try.func13, Try.ntmps13
  have hB0 := Below.refl w.heap.size w
  go_wp2_with fail
  refine (toIntS_any _ _ _ _ _ hx0 hbig0).mono ?_
  rintro e w1' ⟨As0, Cs0, rfl, hos0, hbs0⟩
  have hB1 := bstep hB0 hbs0
  replace hx0 := hx0.below hbs0
  replace hx1 := hx1.below hbs0
  have hrs0 := Rd.own hos0
  have hcs0 := (own_cap hos0).1
  clear hos0
  go_wp2_with fail
  refine (toIntS_any _ _ _ _ _ hx1 hbig1).mono ?_
  rintro e w2' ⟨As1, Cs1, rfl, hos1, hbs1⟩
  have hB2 := bstep hB1 hbs1
  replace hx0 := hx0.below hbs1
  replace hx1 := hx1.below hbs1
  replace hrs0 := hrs0.below hbs1
  have hrs1 := Rd.own hos1
  have hcs1 := (own_cap hos1).1
  clear hos1
  go_wp2_with fail
  refine (helloPick_spec _ _ _ _ _ _ _ _ _ hrs0 hcs0 hrs1 hcs1 _ hr.out).mono ?_
  rintro e w3' ⟨rfl, hbS⟩
  have hB3 := bstep hB2 hbS
  replace hx0 := hx0.below hbS
  replace hx1 := hx1.below hbS
  replace hrs0 := hrs0.below hbS
  replace hrs1 := hrs1.below hbS
  go_wp2_with fail
  refine (toIntS_any _ _ _ _ _ hx0 hbig0).mono ?_
  rintro e w4' ⟨Ai0, Ci0, rfl, hoi0, hbi0⟩
  have hB4 := bstep hB3 hbi0
  replace hx0 := hx0.below hbi0
  replace hx1 := hx1.below hbi0
  replace hrs0 := hrs0.below hbi0
  replace hrs1 := hrs1.below hbi0
  have hri0 := Rd.own hoi0
  have hci0 := (own_cap hoi0).1
  clear hoi0
  go_wp2_with fail
  refine (toIntS_any _ _ _ _ _ hx1 hbig1).mono ?_
  rintro e w5' ⟨Ai1, Ci1, rfl, hoi1, hbi1⟩
  have hB5 := bstep hB4 hbi1
  replace hx0 := hx0.below hbi1
  replace hx1 := hx1.below hbi1
  replace hrs0 := hrs0.below hbi1
  replace hrs1 := hrs1.below hbi1
  replace hri0 := hri0.below hbi1
  have hri1 := Rd.own hoi1
  have hci1 := (own_cap hoi1).1
  clear hoi1
  go_wp2_with fail
  refine (helloPick_impl _ _ _ _ _ _ _ _ _ hri0 hci0 hri1 hci1 _ hr.out).mono ?_
  rintro e w6' ⟨rfl, hbI⟩
  have hB6 := bstep hB5 hbI
  replace hx0 := hx0.below hbI
  replace hx1 := hx1.below hbI
  replace hrs0 := hrs0.below hbI
  replace hrs1 := hrs1.below hbI
  replace hri0 := hri0.below hbI
  replace hri1 := hri1.below hbI
  go_wp2_with fail
  refine (toIntS_any _ _ _ _ _ hx0 hbig0).mono ?_
  rintro e w7' ⟨Ae0, Ce0, rfl, hoe0, hbe0⟩
  have hB7 := bstep hB6 hbe0
  replace hx0 := hx0.below hbe0
  replace hx1 := hx1.below hbe0
  replace hrs0 := hrs0.below hbe0
  replace hrs1 := hrs1.below hbe0
  replace hri0 := hri0.below hbe0
  replace hri1 := hri1.below hbe0
  have hre0 := Rd.own hoe0
  have hce0 := (own_cap hoe0).1
  clear hoe0
  go_wp2_with fail
  refine (eqIntS_any _ _ _ _ _ _ _ _ _ hri0 hre0).mono ?_
  rintro e w8' ⟨rfl, hb0e⟩
  rw [decide_eq_true rfl]
  have hB8 := bstep hB7 hb0e
  replace hx0 := hx0.below hb0e
  replace hx1 := hx1.below hb0e
  replace hrs0 := hrs0.below hb0e
  replace hrs1 := hrs1.below hb0e
  replace hri0 := hri0.below hb0e
  replace hri1 := hri1.below hb0e
  replace hre0 := hre0.below hb0e
  go_wp2_with fail
  refine (toIntS_any _ _ _ _ _ hx1 hbig1).mono ?_
  rintro e w9' ⟨Ae1, Ce1, rfl, hoe1, hbe1⟩
  have hB9 := bstep hB8 hbe1
  replace hx0 := hx0.below hbe1
  replace hx1 := hx1.below hbe1
  replace hrs0 := hrs0.below hbe1
  replace hrs1 := hrs1.below hbe1
  replace hri0 := hri0.below hbe1
  replace hri1 := hri1.below hbe1
  replace hre0 := hre0.below hbe1
  have hre1 := Rd.own hoe1
  have hce1 := (own_cap hoe1).1
  clear hoe1
  go_wp2_with fail
  refine (eqIntS_any _ _ _ _ _ _ _ _ _ hri1 hre1).mono ?_
  rintro e w10' ⟨rfl, hb1e⟩
  rw [decide_eq_true rfl]
  have hB10 := bstep hB9 hb1e
  replace hx0 := hx0.below hb1e
  replace hx1 := hx1.below hb1e
  replace hrs0 := hrs0.below hb1e
  replace hrs1 := hrs1.below hb1e
  replace hri0 := hri0.below hb1e
  replace hri1 := hri1.below hb1e
  replace hre0 := hre0.below hb1e
  replace hre1 := hre1.below hb1e
  go_wp2_with fail
  go_ret
  exact ⟨rfl, hB10⟩

set_option maxRecDepth 100000 in
theorem lifted_FnExactHelloPick (os : Os) (started : os.Started) (H : Type) (enc : TypeId × Value → H) :
    ReturnsInHanded {} Try.checked os 13 .any (Rows.fnExactHelloPickSpec.pre6 enc Try.prog Try.f13 Rows.fnExactHelloPickRow.domain false) (Rows.fnExactHelloPickSpec.post enc Try.prog Try.f13 false true false false) := by
  refine returnsInHanded_of_change (C := Try.checked) row_own started (by kernel_rfl) Try.func13
    (ChangeSpec.witness6 (enc := enc) (C := Try.checked) false ⟨#[], #[.slice none 0 0, .slice none 0 0], []⟩ 8 (by kernel_rfl) (by kernel_rfl) (by kernel_rfl) (by kernel_rfl)) ?_
  intro W base args ds gs before hval0 hW hcnd _
  have hval : ∀ (j : Nat) t v, Try.f13.params[j]? = some t → args[j]? = some v → Value.okWide Try.prog W .any base t v := hval0
  have hW' := hW
  obtain ⟨p, q, hA0, hV, rfl, hfz, hnd⟩ := hW
  have hA : DataW.TrodAll enc Try.prog W 0 (fun _ => true) true Try.f13.params.toList args.toList ds p := hA0
  rw [Try.params13] at hA hval
  obtain ⟨v0, vs0, d0, ds0, p0, q0, hargs, rfl, rfl, h0, r0⟩ := trodAll_cons hA
  obtain ⟨v1, vs1, d1, ds1, p1, q1, rfl, rfl, rfl, h1, r1⟩ := trodAll_cons r0
  obtain ⟨rfl, rfl, rfl⟩ := trodAll_nil r1
  obtain rfl : args = #[v0, v1] := by cases args; simp_all
  obtain ⟨rfl, rfl⟩ := trodVars_none hV
  have k0 := h0
  have lt0 : ∀ x ∈ p0, x.block < W.heap.size := by obtain ⟨m, hm⟩ := k0; exact DataW.trod_lt m _ _ _ hm
  obtain ⟨a0, n0, c0, rfl⟩ := okWide_slice Try.underlying22 (hval 0 22 v0 rfl rfl)
  obtain ⟨z0, w0⟩ := rd_open Try.underlying22 Try.underlying3 (by kernel_rfl) h0
  have k1 := h1
  have lt1 : ∀ x ∈ p1, x.block < W.heap.size := by obtain ⟨m, hm⟩ := k1; exact DataW.trod_lt m _ _ _ hm
  obtain ⟨a1, n1, c1, rfl⟩ := okWide_slice Try.underlying22 (hval 1 22 v1 rfl rfl)
  obtain ⟨z1, w1⟩ := rd_open Try.underlying22 Try.underlying3 (by kernel_rfl) h1
  clear hA0 hval0
  refine (walk_FnExactHelloPick a0 n0 c0 z0 a1 n1 c1 z1 W w0 w1).mono fun e W' ⟨he, bel⟩ => ?_
  subst he
  exact ⟨_, rfl, _, _, _, [], _, [], hW', trodAll_mk1 (shut_bool Try.underlying4 _), (trodAll_cons_mk (Below.trod row_laidOut (by kernel_rfl) (of_decide_eq_true (by kernel_rfl)) k0 bel lt0) (trodAll_cons_mk (Below.trod row_laidOut (by kernel_rfl) (of_decide_eq_true (by kernel_rfl)) k1 bel lt1) trodAll_mk0)), rfl, bel.frame _, fun h => by cases h⟩

theorem over_FnExactHelloPick : Rows.fnExactHelloPickRow.holds Try.pinned (OpenSpec.ofChange Rows.fnExactHelloPickSpec) :=
  OpenClaim.holds_of_wide 13 Try.f13 rfl rfl rfl rfl rfl rfl rfl ⟨rfl, rfl, rfl, rfl, rfl⟩ rfl rfl rfl rfl rfl (by kernel_rfl) Try.func13 (by kernel_rfl)
    (of_decide_eq_true (by kernel_rfl)) (by unfold Func.isWrapper; first | (rw [if_pos (by decide +kernel)]; kernel_rfl) | (rw [if_neg (by decide +kernel)]; exact ⟨rfl, rfl⟩))
    (fun os started H enc _ => lifted_FnExactHelloPick os started H enc)

/-- The statement. -/
theorem fnExactHelloPick_holds : Rows.FnExactHelloPickSaid := over_FnExactHelloPick
#print axioms fnExactHelloPick_holds
end Go.Proofs.Ytfhadfcdfeancaa
