/- The statement FnExactPickFrom: the program's PickFrom answers what the reference's answers, for every slice. No condition. -/
import Derived.Test.YtfikfihcjddgnaaRow
import Derived.Test.YtfikfihcjddgnaaPick
namespace Go.Proofs.Ytfikfihcjddgnaa
open Go.ChangeShapes Go.WideShapes Go.ChangeAt Go.RowKit
open Go.ChangeMaps (open_string shut_string)

set_option maxHeartbeats 2000000 in
theorem walk_FnExactPickFrom (a0 : Option Addr) (n0 c0 : Nat) (z0 : List Int) (w : World) (w0 : Rd w a0 n0 (ints z0) ∧ n0 ≤ c0 ∧ c0 ≤ maxLen ∧ ∀ x ∈ z0, (Lit.int .i64 x).wf = true) : Calls Try.prog 4 #[.slice a0 n0 c0] w fun e w' => e = .returned (.bool true) ∧ Below w.heap.size w w' := by
  have hx0 := w0.1
  clear w0
  have hm0 := hx0.max
  obtain ⟨x, y, b, hr⟩ : ∃ x y b, pickF z0 = (x, y, b) := ⟨_, _, _, rfl⟩
  replace hr := Lib.hid hr
  have hne : (x != x) = false := by simp
  have hny : (y != y) = false := by simp
  have hneb : (b != b) = false := by simp
  by_cases hbig0 : n0 ≤ 1048576
  case neg =>
    go_enter Try.func4, Try.ntmps4
    go_wp2
    go_ret
    exact ⟨rfl, Below.refl _ _⟩
  go_enter Try.func4, Try.ntmps4
  have hB0 := Below.refl w.heap.size w
  go_wp2_with fail
  refine (toIntS_any _ _ _ _ _ hx0 hbig0).mono ?_
  rintro e w1' ⟨As0, Cs0, rfl, hos0, hbs0⟩
  have hB1 := bstep hB0 hbs0
  replace hx0 := hx0.below hbs0
  have hrs0 := Rd.own hos0
  clear hos0
  go_wp2_with fail
  refine (pickFrom_spec _ _ _ _ _ hrs0 _ _ _ hr.out).mono ?_
  rintro e w2' ⟨rfl, rfl⟩
  go_wp2_with fail
  refine (toIntS_any _ _ _ _ _ hx0 hbig0).mono ?_
  rintro e w2' ⟨Ai0, Ci0, rfl, hoi0, hbi0⟩
  have hB2 := bstep hB1 hbi0
  replace hx0 := hx0.below hbi0
  replace hrs0 := hrs0.below hbi0
  have hri0 := Rd.own hoi0
  have hfl := own_flat hoi0
  have hci := (own_cap hoi0).1
  clear hoi0
  go_wp2_with fail
  refine (pickFrom_impl _ _ _ _ _ hri0 hfl hci (by omega) _ _ _ hr.out).mono ?_
  rintro e w3' ⟨rfl, hbp⟩
  replace hB2 := bstep hB2 hbp
  replace hx0 := hx0.below hbp
  replace hrs0 := hrs0.below hbp
  replace hri0 := hri0.below hbp
  clear hbp
  go_wp2_with fail
  refine (toIntS_any _ _ _ _ _ hx0 hbig0).mono ?_
  rintro e w3' ⟨Ae0, Ce0, rfl, hoe0, hbe0⟩
  have hB3 := bstep hB2 hbe0
  replace hx0 := hx0.below hbe0
  replace hrs0 := hrs0.below hbe0
  replace hri0 := hri0.below hbe0
  have hre0 := Rd.own hoe0
  clear hoe0
  go_wp2_with fail
  refine (eqIntS_any _ _ _ _ _ _ _ _ _ hri0 hre0).mono ?_
  rintro e w4' ⟨rfl, hb0e⟩
  rw [decide_eq_true rfl]
  have hB4 := bstep hB3 hb0e
  replace hx0 := hx0.below hb0e
  replace hrs0 := hrs0.below hb0e
  replace hri0 := hri0.below hb0e
  replace hre0 := hre0.below hb0e
  go_wp2_with fail
  go_ret
  exact ⟨rfl, hB4⟩

set_option maxRecDepth 100000 in
theorem lifted_FnExactPickFrom (os : Os) (started : os.Started) (H : Type) (enc : TypeId × Value → H) :
    ReturnsInHanded {} Try.checked os 4 .any (Rows.fnExactPickFromSpec.pre6 enc Try.prog Try.f4 Rows.fnExactPickFromRow.domain false) (Rows.fnExactPickFromSpec.post enc Try.prog Try.f4 false true false false) := by
  refine returnsInHanded_of_change (C := Try.checked) row_own started (by kernel_rfl) Try.func4
    (ChangeSpec.witness6 (enc := enc) (C := Try.checked) false ⟨#[], #[.slice none 0 0], []⟩ 8 (by kernel_rfl) (by kernel_rfl) (by kernel_rfl) (by kernel_rfl)) ?_
  intro W base args ds gs before hval0 hW hcnd _
  have hval : ∀ (j : Nat) t v, Try.f4.params[j]? = some t → args[j]? = some v → Value.okWide Try.prog W .any base t v := hval0
  have hW' := hW
  obtain ⟨p, q, hA0, hV, rfl, hfz, hnd⟩ := hW
  have hA : DataW.TrodAll enc Try.prog W 0 (fun _ => true) true Try.f4.params.toList args.toList ds p := hA0
  rw [Try.params4] at hA hval
  obtain ⟨v0, vs0, d0, ds0, p0, q0, hargs, rfl, rfl, h0, r0⟩ := trodAll_cons hA
  obtain ⟨rfl, rfl, rfl⟩ := trodAll_nil r0
  obtain rfl : args = #[v0] := by cases args; simp_all
  obtain ⟨rfl, rfl⟩ := trodVars_none hV
  have k0 := h0
  have lt0 : ∀ x ∈ p0, x.block < W.heap.size := by obtain ⟨m, hm⟩ := k0; exact DataW.trod_lt m _ _ _ hm
  obtain ⟨a0, n0, c0, rfl⟩ := okWide_slice Try.underlying23 (hval 0 23 v0 rfl rfl)
  obtain ⟨z0, w0⟩ := rd_open Try.underlying23 Try.underlying3 (by kernel_rfl) h0
  clear hA0 hval0
  refine (walk_FnExactPickFrom a0 n0 c0 z0 W w0).mono fun e W' ⟨he, bel⟩ => ?_
  subst he
  exact ⟨_, rfl, _, _, _, [], _, [], hW', trodAll_mk1 (shut_bool Try.underlying4 _), (trodAll_cons_mk (Below.trod row_laidOut (by kernel_rfl) (of_decide_eq_true (by kernel_rfl)) k0 bel lt0) trodAll_mk0), rfl, bel.frame _, fun h => by cases h⟩

theorem over_FnExactPickFrom : Rows.fnExactPickFromRow.holds Try.pinned (OpenSpec.ofChange Rows.fnExactPickFromSpec) :=
  OpenClaim.holds_of_wide 4 Try.f4 rfl rfl rfl rfl rfl rfl rfl ⟨rfl, rfl, rfl, rfl, rfl⟩ rfl rfl rfl rfl rfl (by kernel_rfl) Try.func4 (by kernel_rfl)
    (of_decide_eq_true (by kernel_rfl)) (by unfold Func.isWrapper; first | (rw [if_pos (by decide +kernel)]; kernel_rfl) | (rw [if_neg (by decide +kernel)]; exact ⟨rfl, rfl⟩))
    (fun os started H enc _ => lifted_FnExactPickFrom os started H enc)

/-- The statement. -/
theorem fnExactPickFrom_holds : Rows.FnExactPickFromSaid := over_FnExactPickFrom
#print axioms fnExactPickFrom_holds
end Go.Proofs.Ytfikfihcjddgnaa
