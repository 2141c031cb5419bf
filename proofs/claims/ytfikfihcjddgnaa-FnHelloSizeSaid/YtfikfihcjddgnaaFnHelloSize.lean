/- The statement FnHelloSize: methods are counted. No condition. -/
import Derived.Test.YtfikfihcjddgnaaRow
import Derived.Test.YtfikfihcjddgnaaMeth
import Derived.Test.YtfikfihcjddgnaaDrawM
import Derived.Test.YtfikfihcjddgnaaNb
namespace Go.Proofs.Ytfikfihcjddgnaa
open Go.ChangeShapes Go.WideShapes Go.ChangeAt Go.RowKit
open Go.ChangeMaps (open_string shut_string)

set_option maxHeartbeats 2000000 in
theorem walk_FnHelloSize (a0 : Option Addr) (n0 c0 : Nat) (z0 : List Int) (w : World) (w0 : Rd w a0 n0 (z0.map (Value.int .u8)) ∧ n0 ≤ c0 ∧ c0 ≤ maxLen ∧ ∀ x ∈ z0, (Lit.int .u8 x).wf = true) :
    Calls Try.prog 3 #[.slice a0 n0 c0] w fun e w' => e = .returned (.bool true) ∧ Below w.heap.size w w' := by
  obtain ⟨hx, hc, _, hwf⟩ := w0
  have hv : ∀ z ∈ z0, 0 ≤ z ∧ z ≤ 255 := fun z hz => bounds_u8 (hwf z hz)
  clear hwf
  replace hv := Lib.hid hv
  have hm := hx.max
  by_cases hbig : n0 ≤ 1048576
  case neg =>
    go_enter Try.func3, Try.ntmps3
    go_wp2
    go_ret
    exact ⟨rfl, Below.refl _ _⟩
  go_enter Try.func3, Try.ntmps3
  go_wp2_with fail
  refine (drawHelloBytes_any _ _ _ _ _ hx hc hv.out).mono ?_
  rintro e w1 ⟨A0, m0, k0, ms, rfl, hm0, ho1, hB1⟩
  have hrm := Rd.own ho1
  have hcm := (own_cap ho1).1
  clear ho1
  obtain ⟨zs, b, hf⟩ : ∃ zs b, helloB ms = (zs, b) := ⟨_, _, rfl⟩
  replace hf := Lib.hid hf
  go_wp2_with fail
  refine (helloBytes_impl _ _ _ _ _ hrm hcm zs b hf.out).mono ?_
  rintro e w2 ⟨A, n, c, rfl, ho2, hb2⟩
  have hB2 := bstep hB1 hb2
  have hr2 := Rd.own ho2
  replace hrm := hrm.below hb2
  go_wp2_with fail
  refine (helloBytes_spec _ _ _ _ _ hrm hcm zs b hf.out).mono ?_
  rintro e w3 ⟨A3, n3, c3, rfl, ho3, hb3⟩
  have hB3 := bstep hB2 hb3
  have hr3 := Rd.own ho3
  replace hr2 := hr2.below hb3
  replace ho2 := own_below ho2 hb3
  replace hrm := hrm.below hb3
  clear ho3
  go_wp2_with fail
  refine (sameBytes_any _ _ _ _ _ _ _ _ _ hr2 hr3).mono ?_
  rintro e w4 ⟨rfl, hb4⟩
  rw [decide_eq_true rfl]
  have hB4 := bstep hB3 hb4
  replace hr2 := hr2.below hb4
  replace hr3 := hr3.below hb4
  replace ho2 := own_below ho2 hb4
  replace hrm := hrm.below hb4
  cases b
  case false =>
    go_wp2_with fail
    refine (sameBytes_any _ _ _ _ _ _ _ _ _ hr2 hr3).mono ?_
    rintro e w5 ⟨rfl, hb5⟩
    rw [decide_eq_true rfl]
    go_wp2_with fail
    go_ret
    exact ⟨rfl, bstep hB4 hb5⟩
  case true =>
    obtain ⟨hm1, rfl⟩ := helloB_true hf.out
    have hl := hrm.ilen
    have hcap := (own_cap ho2).1
    obtain rfl : n = m0 + 2 := by have := hr2.ilen; simp at this; omega
    rw [hl] at hr2 hr3 ho2 hm1 hf
    obtain ⟨b1, o1, rfl, hcell⟩ := hr2.cells (by omega)
    have hc0 : w4.cell? ⟨b1, o1, none⟩ = some (.int .i64 5) := hcell 0 _ rfl
    have hc1 : w4.cell? ⟨b1, o1 + 1, none⟩ = some (.int .i64 m0) := hcell 1 _ rfl
    have hr6 : Rd w4 (some ⟨b1, o1 + 2, none⟩) m0 (ints ms) := by simpa [ints] using hr2.drop (k := 2) (by omega)
    clear hcell ho2 hr2 hr3 hf hl
    go_wp2_with fail
    refine (sameBytes_any _ _ _ _ _ _ _ _ _ hr6 hrm).mono ?_
    rintro e w6 ⟨rfl, hb6⟩
    rw [decide_eq_true rfl]
    go_wp2_with fail
    go_ret
    exact ⟨rfl, bstep hB4 hb6⟩

set_option maxRecDepth 100000 in
theorem lifted_FnHelloSize (os : Os) (started : os.Started) (H : Type) (enc : TypeId × Value → H) :
    ReturnsInHanded {} Try.checked os 3 .any (Rows.fnHelloSizeSpec.pre6 enc Try.prog Try.f3 Rows.fnHelloSizeRow.domain false) (Rows.fnHelloSizeSpec.post enc Try.prog Try.f3 false true false false) := by
  refine returnsInHanded_of_change (C := Try.checked) row_own started (by kernel_rfl) Try.func3
    (ChangeSpec.witness6 (enc := enc) (C := Try.checked) false ⟨#[], #[.slice none 0 0], []⟩ 8 (by kernel_rfl) (by kernel_rfl) (by kernel_rfl) (by kernel_rfl)) ?_
  intro W base args ds gs before hval0 hW hcnd _
  have hval : ∀ (j : Nat) t v, Try.f3.params[j]? = some t → args[j]? = some v → Value.okWide Try.prog W .any base t v := hval0
  have hW' := hW
  obtain ⟨p, q, hA0, hV, rfl, hfz, hnd⟩ := hW
  have hA : DataW.TrodAll enc Try.prog W 0 (fun _ => true) true Try.f3.params.toList args.toList ds p := hA0
  rw [Try.params3] at hA hval
  obtain ⟨v0, vs0, d0, ds0, p0, q0, hargs, rfl, rfl, h0, r0⟩ := trodAll_cons hA
  obtain ⟨rfl, rfl, rfl⟩ := trodAll_nil r0
  obtain rfl : args = #[v0] := by cases args; simp_all
  obtain ⟨rfl, rfl⟩ := trodVars_none hV
  have k0 := h0
  have lt0 : ∀ x ∈ p0, x.block < W.heap.size := by obtain ⟨m, hm⟩ := k0; exact DataW.trod_lt m _ _ _ hm
  obtain ⟨a0, n0, c0, rfl⟩ := okWide_slice Try.underlying22 (hval 0 22 v0 rfl rfl)
  obtain ⟨z0, w0⟩ := rd_open Try.underlying22 Try.underlying5 (by kernel_rfl) h0
  clear hA0 hval0
  refine (walk_FnHelloSize a0 n0 c0 z0 W w0).mono fun e W' ⟨he, bel⟩ => ?_
  subst he
  exact ⟨_, rfl, _, _, _, [], _, [], hW', trodAll_mk1 (shut_bool Try.underlying4 _), (trodAll_cons_mk (Below.trod row_laidOut (by kernel_rfl) (of_decide_eq_true (by kernel_rfl)) k0 bel lt0) trodAll_mk0), rfl, bel.frame _, fun h => by cases h⟩

theorem over_FnHelloSize : Rows.fnHelloSizeRow.holds Try.pinned (OpenSpec.ofChange Rows.fnHelloSizeSpec) :=
  OpenClaim.holds_of_wide 3 Try.f3 rfl rfl rfl rfl rfl rfl rfl ⟨rfl, rfl, rfl, rfl, rfl⟩ rfl rfl rfl rfl rfl (by kernel_rfl) Try.func3 (by kernel_rfl)
    (of_decide_eq_true (by kernel_rfl)) (by unfold Func.isWrapper; first | (rw [if_pos (by decide +kernel)]; kernel_rfl) | (rw [if_neg (by decide +kernel)]; exact ⟨rfl, rfl⟩))
    (fun os started H enc _ => lifted_FnHelloSize os started H enc)

/-- The statement. -/
theorem fnHelloSize_holds : Rows.FnHelloSizeSaid := over_FnHelloSize
#print axioms fnHelloSize_holds
end Go.Proofs.Ytfikfihcjddgnaa
