/- The statement FnExactNumberBytes: the program's NumberBytes returns what the reference's returns, for all arguments. No condition. -/
import Derived.Test.YtmepbopgdlhahaaRow
import Derived.Test.YtmepbopgdlhahaaNum
namespace Go.Proofs.Ytmepbopgdlhahaa
open Go.ChangeShapes Go.WideShapes Go.ChangeAt Go.RowKit
open Go.ChangeMaps (open_string shut_string)

set_option maxHeartbeats 1000000 in
theorem walk_FnExactNumberBytes (x width : Int) (w : World) (hx : (Lit.int .i64 x).wf = true) (_hw : (Lit.int .i64 width).wf = true) : Calls Try.prog 14 #[.int .i64 x, .int .i64 width] w fun e w' => e = .returned (.bool true) ∧ Below w.heap.size w w' := by
  obtain ⟨hxl, hxh⟩ := wf_i64_bounds hx
  obtain ⟨zs, b, hf⟩ : ∃ zs b, numB x width = (zs, b) := ⟨_, _, rfl⟩
  have hzl : zs.length ≤ 1000000 := Nat.le_trans (numB_length hf) (by decide)
  replace hf := Lib.hid hf
  go_enter Try.func14, Try.ntmps14
  go_wp2_with fail
  refine (numberBytes_spec x width hxh _ zs b hf.out).mono ?_
  rintro e w1 ⟨A, n, c, rfl, ho1, hB1⟩
  have hr1 := Rd.own ho1
  go_wp2_with fail
  refine (numberBytes_impl x width ⟨hxl, hxh⟩ _ zs b hf.out).mono ?_
  rintro e w2 ⟨A2, n2, c2, rfl, ho2, hb2⟩
  have hBase := hB1.size
  have hBase1 : w1.heap.size ≤ w1.heap.size := Nat.le_refl _
  have hB2 := bstep hB1 hb2
  have hr2 := Rd.own ho2
  have hr1' := hr1.below hb2
  go_wp2_with fail
  refine (eqIntS_any _ _ _ _ _ _ _ _ _ hr2 hr1').mono ?_
  rintro e w3 ⟨rfl, hb3⟩
  rw [decide_eq_true rfl]
  have hB3 := bstep hB2 hb3
  have hn2 : n2 ≤ 2000000 := by have := hr2.ilen; omega
  replace hr1' := hr1'.below hb3
  replace ho2 := own_below ho2 hb3
  go_wp2_with fail
  refine (markIntS_any _ _ _ _ _ _ _ ho2 (by omega)).mono ?_
  rintro e w4 ⟨rfl, ho4, hg4⟩
  have hB4 := bown hB3 ho2 hBase hg4
  replace hr1' := hr1'.far hr1 hBase1 ho2 hg4
  have hr4 := Rd.own ho4
  go_wp2_with fail
  refine (heldIntS_any _ _ _ _ _ hr4 (by omega)).mono ?_
  rintro e w5 ⟨rfl, hb5⟩
  have hB5 := bstep hB4 hb5
  replace hr1' := hr1'.below hb5
  replace hr4 := hr4.below hb5
  go_wp2_with fail
  refine (numberBytes_impl x width ⟨hxl, hxh⟩ _ zs b hf.out).mono ?_
  rintro e w6 ⟨A6, n6, c6, rfl, ho6, hb6⟩
  have hB6 := bstep hB5 hb6
  have hr6 := Rd.own ho6
  replace hr1' := hr1'.below hb6
  replace hr4 := hr4.below hb6
  go_wp2_with fail
  refine (eqIntS_any _ _ _ _ _ _ _ _ _ hr6 hr1').mono ?_
  rintro e w7 ⟨rfl, hb7⟩
  rw [decide_eq_true rfl]
  have hB7 := bstep hB6 hb7
  replace hr4 := hr4.below hb7
  go_wp2_with fail
  refine (heldIntS_any _ _ _ _ _ hr4 (by omega)).mono ?_
  rintro e w8 ⟨rfl, hb8⟩
  have hB8 := bstep hB7 hb8
  go_wp2_with fail
  go_ret
  exact ⟨rfl, hB8⟩

set_option maxRecDepth 100000 in
theorem lifted_FnExactNumberBytes (os : Os) (started : os.Started) (H : Type) (enc : TypeId × Value → H) :
    ReturnsInHanded {} Try.checked os 14 .any (Rows.fnExactNumberBytesSpec.pre6 enc Try.prog Try.f14 Rows.fnExactNumberBytesRow.domain false) (Rows.fnExactNumberBytesSpec.post enc Try.prog Try.f14 false true false false) := by
  refine returnsInHanded_of_change (C := Try.checked) row_own started (by kernel_rfl) Try.func14
    (ChangeSpec.witness6 (enc := enc) (C := Try.checked) false ⟨#[], #[.int .i64 0, .int .i64 0], []⟩ 8 (by kernel_rfl) (by kernel_rfl) (by kernel_rfl) (by kernel_rfl)) ?_
  intro W base args ds gs before hval0 hW hcnd _
  have hval : ∀ (j : Nat) t v, Try.f14.params[j]? = some t → args[j]? = some v → Value.okWide Try.prog W .any base t v := hval0
  have hW' := hW
  obtain ⟨p, q, hA0, hV, rfl, hfz, hnd⟩ := hW
  have hA : DataW.TrodAll enc Try.prog W 0 (fun _ => true) true Try.f14.params.toList args.toList ds p := hA0
  rw [Try.params14] at hA hval
  obtain ⟨v0, vs0, d0, ds0, p0, q0, hargs, rfl, rfl, h0, r0⟩ := trodAll_cons hA
  obtain ⟨v1, vs1, d1, ds1, p1, q1, rfl, rfl, rfl, h1, r1⟩ := trodAll_cons r0
  obtain ⟨rfl, rfl, rfl⟩ := trodAll_nil r1
  obtain rfl : args = #[v0, v1] := by cases args; simp_all
  obtain ⟨rfl, rfl⟩ := trodVars_none hV
  obtain ⟨a0, rfl, rfl, rfl, w0⟩ := open_int Try.underlying3 (hval 0 3 v0 rfl rfl) h0
  obtain ⟨a1, rfl, rfl, rfl, w1⟩ := open_int Try.underlying3 (hval 1 3 v1 rfl rfl) h1
  clear hA0 hval0
  refine (walk_FnExactNumberBytes a0 a1 W w0 w1).mono fun e W' ⟨he, bel⟩ => ?_
  subst he
  exact ⟨_, rfl, _, _, _, [], _, [], hW', trodAll_mk1 (shut_bool Try.underlying4 _), (trodAll_cons_mk (shut_int Try.underlying3 w0) (trodAll_cons_mk (shut_int Try.underlying3 w1) trodAll_mk0)), rfl, bel.frame _, fun h => by cases h⟩

theorem over_FnExactNumberBytes : Rows.fnExactNumberBytesRow.holds Try.pinned (OpenSpec.ofChange Rows.fnExactNumberBytesSpec) :=
  OpenClaim.holds_of_wide 14 Try.f14 rfl rfl rfl rfl rfl rfl rfl ⟨rfl, rfl, rfl, rfl, rfl⟩ rfl rfl rfl rfl rfl (by kernel_rfl) Try.func14 (by kernel_rfl)
    (of_decide_eq_true (by kernel_rfl)) (by unfold Func.isWrapper; first | (rw [if_pos (by decide +kernel)]; kernel_rfl) | (rw [if_neg (by decide +kernel)]; exact ⟨rfl, rfl⟩))
    (fun os started H enc _ => lifted_FnExactNumberBytes os started H enc)

/-- The statement. -/
theorem fnExactNumberBytes_holds : Rows.FnExactNumberBytesSaid := over_FnExactNumberBytes
#print axioms fnExactNumberBytes_holds
end Go.Proofs.Ytmepbopgdlhahaa
