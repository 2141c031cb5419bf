/- The statement FnExactTextBytes: the program's TextBytes returns what the reference's returns, for every text. No condition. -/
import Derived.Test.YtmepbopgdlhahaaRow
import Derived.Test.YtmepbopgdlhahaaText
namespace Go.Proofs.Ytmepbopgdlhahaa
open Go.ChangeShapes Go.WideShapes Go.ChangeAt Go.RowKit
open Go.ChangeMaps (open_string shut_string)

set_option maxHeartbeats 1000000 in
theorem walk_FnExactTextBytes (s : ByteArray) (w : World) (hs : s.size ≤ maxLen) : Calls Try.prog 13 #[.string s] w fun e w' => e = .returned (.bool true) ∧ Below w.heap.size w w' := by
  unfold maxLen at hs
  have hs' : s.size ≤ 9223372036854775807 := by omega
  obtain ⟨zs, b, hf⟩ : ∃ zs b, textB s = (zs, b) := ⟨_, _, rfl⟩
  have hzl : zs.length ≤ 1000000 := Nat.le_trans (textB_length hf) (by decide)
  replace hf := Lib.hid hf
  by_cases hbig : s.size ≤ 1048576
  · go_enter Try.func13, Try.ntmps13
    go_wp2_with fail
    refine (textBytes_spec s _ hs' zs b hf.out).mono ?_
    rintro e w1 ⟨A, n, c, rfl, ho1, hB1⟩
    have hr1 := Rd.own ho1
    go_wp2_with fail
    refine (textBytes_impl s _ hs' zs b hf.out).mono ?_
    rintro e w2 ⟨A2, n2, c2, rfl, ho2, hb2⟩
    have hBase := hB1.size
    have hBase1 : w1.heap.size ≤ w1.heap.size := Nat.le_refl _
    have hB2 := bstep hB1 hb2
    have hr2 := Rd.own ho2
    have hr1' := hr1.below hb2
    go_wp2_with fail
    refine (eqIntS_any _ _ _ _ _ _ _ _ _ hr2 hr1').mono ?_
    rintro e w3 ⟨rfl, hb3⟩
    rw [decide_eq_true rfl]
    have hB3 := bstep hB2 hb3
    have hn2 : n2 ≤ 2000000 := by have := hr2.ilen; omega
    replace hr1' := hr1'.below hb3
    replace ho2 := own_below ho2 hb3
    go_wp2_with fail
    refine (markIntS_any _ _ _ _ _ _ _ ho2 (by omega)).mono ?_
    rintro e w4 ⟨rfl, ho4, hg4⟩
    have hB4 := bown hB3 ho2 hBase hg4
    replace hr1' := hr1'.far hr1 hBase1 ho2 hg4
    have hr4 := Rd.own ho4
    go_wp2_with fail
    refine (heldIntS_any _ _ _ _ _ hr4 (by omega)).mono ?_
    rintro e w5 ⟨rfl, hb5⟩
    have hB5 := bstep hB4 hb5
    replace hr1' := hr1'.below hb5
    replace hr4 := hr4.below hb5
    go_wp2_with fail
    refine (textBytes_impl s _ hs' zs b hf.out).mono ?_
    rintro e w6 ⟨A6, n6, c6, rfl, ho6, hb6⟩
    have hB6 := bstep hB5 hb6
    have hr6 := Rd.own ho6
    replace hr1' := hr1'.below hb6
    replace hr4 := hr4.below hb6
    go_wp2_with fail
    refine (eqIntS_any _ _ _ _ _ _ _ _ _ hr6 hr1').mono ?_
    rintro e w7 ⟨rfl, hb7⟩
    rw [decide_eq_true rfl]
    have hB7 := bstep hB6 hb7
    replace hr4 := hr4.below hb7
    go_wp2_with fail
    refine (heldIntS_any _ _ _ _ _ hr4 (by omega)).mono ?_
    rintro e w8 ⟨rfl, hb8⟩
    have hB8 := bstep hB7 hb8
    go_wp2_with fail
    go_ret
    exact ⟨rfl, hB8⟩
  · go_enter Try.func13, Try.ntmps13
    go_wp2
    go_ret
    exact ⟨rfl, Below.refl _ _⟩

set_option maxRecDepth 100000 in
theorem lifted_FnExactTextBytes (os : Os) (started : os.Started) (H : Type) (enc : TypeId × Value → H) :
    ReturnsInHanded {} Try.checked os 13 .any (Rows.fnExactTextBytesSpec.pre6 enc Try.prog Try.f13 Rows.fnExactTextBytesRow.domain false) (Rows.fnExactTextBytesSpec.post enc Try.prog Try.f13 false true false false) := by
  refine returnsInHanded_of_change (C := Try.checked) row_own started (by kernel_rfl) Try.func13
    (ChangeSpec.witness6 (enc := enc) (C := Try.checked) false ⟨#[], #[.string ByteArray.empty], []⟩ 8 (by kernel_rfl) (by kernel_rfl) (by kernel_rfl) (by kernel_rfl)) ?_
  intro W base args ds gs before hval0 hW hcnd _
  have hval : ∀ (j : Nat) t v, Try.f13.params[j]? = some t → args[j]? = some v → Value.okWide Try.prog W .any base t v := hval0
  have hW' := hW
  obtain ⟨p, q, hA0, hV, rfl, hfz, hnd⟩ := hW
  have hA : DataW.TrodAll enc Try.prog W 0 (fun _ => true) true Try.f13.params.toList args.toList ds p := hA0
  rw [Try.params13] at hA hval
  obtain ⟨v0, vs0, d0, ds0, p0, q0, hargs, rfl, rfl, h0, r0⟩ := trodAll_cons hA
  obtain ⟨rfl, rfl, rfl⟩ := trodAll_nil r0
  obtain rfl : args = #[v0] := by cases args; simp_all
  obtain ⟨rfl, rfl⟩ := trodVars_none hV
  obtain ⟨a0, rfl, rfl, rfl, w0⟩ := open_string Try.underlying9 (hval 0 9 v0 rfl rfl) h0
  clear hA0 hval0
  refine (walk_FnExactTextBytes a0 W w0).mono fun e W' ⟨he, bel⟩ => ?_
  subst he
  exact ⟨_, rfl, _, _, _, [], _, [], hW', trodAll_mk1 (shut_bool Try.underlying4 _), (trodAll_cons_mk (shut_string Try.underlying9 w0) trodAll_mk0), rfl, bel.frame _, fun h => by cases h⟩

theorem over_FnExactTextBytes : Rows.fnExactTextBytesRow.holds Try.pinned (OpenSpec.ofChange Rows.fnExactTextBytesSpec) :=
  OpenClaim.holds_of_wide 13 Try.f13 rfl rfl rfl rfl rfl rfl rfl ⟨rfl, rfl, rfl, rfl, rfl⟩ rfl rfl rfl rfl rfl (by kernel_rfl) Try.func13 (by kernel_rfl)
    (of_decide_eq_true (by kernel_rfl)) (by unfold Func.isWrapper; first | (rw [if_pos (by decide +kernel)]; kernel_rfl) | (rw [if_neg (by decide +kernel)]; exact ⟨rfl, rfl⟩))
    (fun os started H enc _ => lifted_FnExactTextBytes os started H enc)

/-- The statement. -/
theorem fnExactTextBytes_holds : Rows.FnExactTextBytesSaid := over_FnExactTextBytes
#print axioms fnExactTextBytes_holds
end Go.Proofs.Ytmepbopgdlhahaa
