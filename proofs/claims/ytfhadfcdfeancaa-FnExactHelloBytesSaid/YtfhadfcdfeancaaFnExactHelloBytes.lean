/- The statement FnExactHelloBytes: the program's HelloBytes returns what the reference's returns, for every slice. No condition. -/
import Derived.Test.YtfhadfcdfeancaaRow
import Derived.Test.YtfhadfcdfeancaaMeth
namespace Go.Proofs.Ytfhadfcdfeancaa
open Go.ChangeShapes Go.WideShapes Go.ChangeAt Go.RowKit
open Go.ChangeMaps (open_string shut_string)

set_option maxHeartbeats 2000000 in
theorem walk_FnExactHelloBytes (a0 : Option Addr) (n0 c0 : Nat) (z0 : List Int) (w : World) (w0 : Rd w a0 n0 (ints z0) ∧ n0 ≤ c0 ∧ c0 ≤ maxLen ∧ ∀ x ∈ z0, (Lit.int .i64 x).wf = true) : Calls Try.prog 14 #[.slice a0 n0 c0] w fun e w' => e = .returned (.bool true) ∧ Below w.heap.size w w' := by
  have hx0 := w0.1
  clear w0
  have hm0 := hx0.max
  obtain ⟨zs, b, hf⟩ : ∃ zs b, helloB z0 = (zs, b) := ⟨_, _, rfl⟩
  have hzl : zs.length ≤ 1000000 := Nat.le_trans (helloB_length hf) (by decide)
  replace hf := Lib.hid hf
  have hneb : (b != b) = false := by simp
  by_cases hbig0 : n0 ≤ 1048576
  case neg =>
    go_enter Try.func14, Try.ntmps14
    go_wp2
    go_ret
    exact ⟨rfl, Below.refl _ _⟩
  go_enter Try.func14, Try.ntmps14
  go_wp2_with fail
  refine (toIntS_any _ _ _ _ _ hx0 hbig0).mono ?_
  rintro e w1 ⟨As, Cs, rfl, hos, hB1⟩
  have hrs := Rd.own hos
  have hcs := (own_cap hos).1
  clear hos
  replace hx0 := hx0.below hB1
  go_wp2_with fail
  refine (helloBytes_spec _ _ _ _ _ hrs hcs zs b hf.out).mono ?_
  rintro e w2 ⟨A, n, c, rfl, ho1, hb2⟩
  have hB2 := bstep hB1 hb2
  have hr1 := Rd.own ho1
  clear ho1 hrs hcs
  replace hx0 := hx0.below hb2
  go_wp2_with fail
  refine (toIntS_any _ _ _ _ _ hx0 hbig0).mono ?_
  rintro e w3 ⟨Ax, Cx, rfl, hox, hb3⟩
  have hB3 := bstep hB2 hb3
  have hxBase : w2.heap.size ≤ w2.heap.size := Nat.le_refl _
  have hrx := Rd.own hox
  have hcx := (own_cap hox).1
  have hx2 := hx0
  replace hx0 := hx0.below hb3
  have hr1' := hr1.below hb3
  go_wp2_with fail
  refine (helloBytes_impl _ _ _ _ _ hrx hcx zs b hf.out).mono ?_
  rintro e w4 ⟨A2, n2, c2, rfl, ho2, hb4⟩
  have hB4 := bstep hB3 hb4
  have hBase := hB3.size
  have hr2 := Rd.own ho2
  have hn2 : n2 ≤ 2000000 := by have := hr2.ilen; omega
  have hox3 := hox
  replace hox := own_below hox hb4
  replace hrx := hrx.below hb4
  replace hx0 := hx0.below hb4
  replace hr1' := hr1'.below hb4
  go_wp2_with fail
  refine (eqIntS_any _ _ _ _ _ _ _ _ _ hr2 hr1').mono ?_
  rintro e w5 ⟨rfl, hb5⟩
  rw [decide_eq_true rfl]
  have hB5 := bstep hB4 hb5
  replace hox := own_below hox hb5
  replace hrx := hrx.below hb5
  replace hx0 := hx0.below hb5
  replace hr1' := hr1'.below hb5
  replace hr2 := hr2.below hb5
  replace ho2 := own_below ho2 hb5
  go_wp2_with fail
  refine (toIntS_any _ _ _ _ _ hx0 hbig0).mono ?_
  rintro e w6 ⟨At, Ct, rfl, hot, hb6⟩
  have hB6 := bstep hB5 hb6
  have hrt := Rd.own hot
  clear hot
  replace hox := own_below hox hb6
  replace hrx := hrx.below hb6
  replace hx0 := hx0.below hb6
  replace hr1' := hr1'.below hb6
  replace hr2 := hr2.below hb6
  replace ho2 := own_below ho2 hb6
  go_wp2_with fail
  refine (eqIntS_any _ _ _ _ _ _ _ _ _ hrx hrt).mono ?_
  rintro e w7 ⟨rfl, hb7⟩
  rw [decide_eq_true rfl]
  have hB7 := bstep hB6 hb7
  clear hrt hrx
  replace hox := own_below hox hb7
  replace hx0 := hx0.below hb7
  replace hr1' := hr1'.below hb7
  replace hr2 := hr2.below hb7
  replace ho2 := own_below ho2 hb7
  go_wp2_with fail
  refine (markIntS_any _ _ _ _ _ _ _ hox (by omega)).mono ?_
  rintro e w8 ⟨rfl, hox8, hg8⟩
  have hB8 := bown hB7 hox hB2.size hg8
  replace hr1' := hr1'.far hr1 hxBase hox hg8
  replace hx0 := hx0.far hx2 hxBase hox hg8
  have hdis : Value.ownBlock (.slice A2 n2 c2) = none ∨ Value.ownBlock (.slice A2 n2 c2) ≠ Value.ownBlock (.slice Ax n0 Cx) := by
    cases h2 : Value.ownBlock (.slice A2 n2 c2) with
    | none => exact .inl rfl
    | some k =>
      refine .inr fun h => ?_
      have h3 := (ho2.lt k h2).1
      have h4 := (hox3.lt k h.symm).2
      omega
  replace ho2 := ho2.kept hg8 hdis
  replace hr2 := Rd.own ho2
  clear hox hox8 hg8 hdis hox3
  go_wp2_with fail
  refine (eqIntS_any _ _ _ _ _ _ _ _ _ hr2 hr1').mono ?_
  rintro e w9 ⟨rfl, hb9⟩
  rw [decide_eq_true rfl]
  have hB9 := bstep hB8 hb9
  replace hx0 := hx0.below hb9
  replace hr1' := hr1'.below hb9
  replace ho2 := own_below ho2 hb9
  clear hr2
  go_wp2_with fail
  refine (markIntS_any _ _ _ _ _ _ _ ho2 (by omega)).mono ?_
  rintro e w10 ⟨rfl, ho10, hg10⟩
  have hB10 := bown hB9 ho2 hBase hg10
  replace hr1' := hr1'.far hr1 hb3.size ho2 hg10
  replace hx0 := hx0.far hx2 hb3.size ho2 hg10
  have hr4 := Rd.own ho10
  clear ho10 ho2 hg10
  go_wp2_with fail
  refine (heldIntS_any _ _ _ _ _ hr4 (by omega)).mono ?_
  rintro e w11 ⟨rfl, hb11⟩
  have hB11 := bstep hB10 hb11
  replace hr1' := hr1'.below hb11
  replace hr4 := hr4.below hb11
  replace hx0 := hx0.below hb11
  go_wp2_with fail
  refine (toIntS_any _ _ _ _ _ hx0 hbig0).mono ?_
  rintro e w12 ⟨Au, Cu, rfl, hou, hb12⟩
  have hB12 := bstep hB11 hb12
  have hru := Rd.own hou
  have hcu := (own_cap hou).1
  clear hou hx0
  replace hr1' := hr1'.below hb12
  replace hr4 := hr4.below hb12
  go_wp2_with fail
  refine (helloBytes_impl _ _ _ _ _ hru hcu zs b hf.out).mono ?_
  rintro e w13 ⟨A6, n6, c6, rfl, ho6, hb13⟩
  have hB13 := bstep hB12 hb13
  have hr6 := Rd.own ho6
  clear ho6
  replace hr1' := hr1'.below hb13
  replace hr4 := hr4.below hb13
  go_wp2_with fail
  refine (eqIntS_any _ _ _ _ _ _ _ _ _ hr6 hr1').mono ?_
  rintro e w14 ⟨rfl, hb14⟩
  rw [decide_eq_true rfl]
  have hB14 := bstep hB13 hb14
  replace hr4 := hr4.below hb14
  go_wp2_with fail
  refine (heldIntS_any _ _ _ _ _ hr4 (by omega)).mono ?_
  rintro e w15 ⟨rfl, hb15⟩
  have hB15 := bstep hB14 hb15
  go_wp2_with fail
  go_ret
  exact ⟨rfl, hB15⟩

set_option maxRecDepth 100000 in
theorem lifted_FnExactHelloBytes (os : Os) (started : os.Started) (H : Type) (enc : TypeId × Value → H) :
    ReturnsInHanded {} Try.checked os 14 .any (Rows.fnExactHelloBytesSpec.pre6 enc Try.prog Try.f14 Rows.fnExactHelloBytesRow.domain false) (Rows.fnExactHelloBytesSpec.post enc Try.prog Try.f14 false true false false) := by
  refine returnsInHanded_of_change (C := Try.checked) row_own started (by kernel_rfl) Try.func14
    (ChangeSpec.witness6 (enc := enc) (C := Try.checked) false ⟨#[], #[.slice none 0 0], []⟩ 8 (by kernel_rfl) (by kernel_rfl) (by kernel_rfl) (by kernel_rfl)) ?_
  intro W base args ds gs before hval0 hW hcnd _
  have hval : ∀ (j : Nat) t v, Try.f14.params[j]? = some t → args[j]? = some v → Value.okWide Try.prog W .any base t v := hval0
  have hW' := hW
  obtain ⟨p, q, hA0, hV, rfl, hfz, hnd⟩ := hW
  have hA : DataW.TrodAll enc Try.prog W 0 (fun _ => true) true Try.f14.params.toList args.toList ds p := hA0
  rw [Try.params14] at hA hval
  obtain ⟨v0, vs0, d0, ds0, p0, q0, hargs, rfl, rfl, h0, r0⟩ := trodAll_cons hA
  obtain ⟨rfl, rfl, rfl⟩ := trodAll_nil r0
  obtain rfl : args = #[v0] := by cases args; simp_all
  obtain ⟨rfl, rfl⟩ := trodVars_none hV
  have k0 := h0
  have lt0 : ∀ x ∈ p0, x.block < W.heap.size := by obtain ⟨m, hm⟩ := k0; exact DataW.trod_lt m _ _ _ hm
  obtain ⟨a0, n0, c0, rfl⟩ := okWide_slice Try.underlying22 (hval 0 22 v0 rfl rfl)
  obtain ⟨z0, w0⟩ := rd_open Try.underlying22 Try.underlying3 (by kernel_rfl) h0
  clear hA0 hval0
  refine (walk_FnExactHelloBytes a0 n0 c0 z0 W w0).mono fun e W' ⟨he, bel⟩ => ?_
  subst he
  exact ⟨_, rfl, _, _, _, [], _, [], hW', trodAll_mk1 (shut_bool Try.underlying4 _), (trodAll_cons_mk (Below.trod row_laidOut (by kernel_rfl) (of_decide_eq_true (by kernel_rfl)) k0 bel lt0) trodAll_mk0), rfl, bel.frame _, fun h => by cases h⟩

theorem over_FnExactHelloBytes : Rows.fnExactHelloBytesRow.holds Try.pinned (OpenSpec.ofChange Rows.fnExactHelloBytesSpec) :=
  OpenClaim.holds_of_wide 14 Try.f14 rfl rfl rfl rfl rfl rfl rfl ⟨rfl, rfl, rfl, rfl, rfl⟩ rfl rfl rfl rfl rfl (by kernel_rfl) Try.func14 (by kernel_rfl)
    (of_decide_eq_true (by kernel_rfl)) (by unfold Func.isWrapper; first | (rw [if_pos (by decide +kernel)]; kernel_rfl) | (rw [if_neg (by decide +kernel)]; exact ⟨rfl, rfl⟩))
    (fun os started H enc _ => lifted_FnExactHelloBytes os started H enc)

/-- The statement. -/
theorem fnExactHelloBytes_holds : Rows.FnExactHelloBytesSaid := over_FnExactHelloBytes
#print axioms fnExactHelloBytes_holds
end Go.Proofs.Ytfhadfcdfeancaa
