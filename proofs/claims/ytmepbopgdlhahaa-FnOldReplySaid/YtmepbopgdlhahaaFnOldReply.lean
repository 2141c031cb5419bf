/- The statement FnOldReply: replies to old requests differ. No condition. -/
import Derived.Test.YtmepbopgdlhahaaRow
import Derived.Test.YtmepbopgdlhahaaReply
import Derived.Test.YtmepbopgdlhahaaDraw
namespace Go.Proofs.Ytmepbopgdlhahaa
open Go.ChangeShapes Go.WideShapes Go.ChangeAt Go.RowKit
open Go.ChangeMaps (open_string shut_string)

set_option maxHeartbeats 1000000 in
theorem walk_FnOldReply (a0 : Option Addr) (n0 c0 : Nat) (z0 : List Int) (w : World) (w0 : Rd w a0 n0 (z0.map (Value.int .u8)) ∧ n0 ≤ c0 ∧ c0 ≤ maxLen ∧ ∀ x ∈ z0, (Lit.int .u8 x).wf = true) : Calls Try.prog 8 #[.slice a0 n0 c0] w fun e w' => e = .returned (.bool true) ∧ Below w.heap.size w w' := by
  obtain ⟨hx, hc, _, hwf⟩ := w0
  have hv : ∀ z ∈ z0, 0 ≤ z ∧ z ≤ 255 := fun z hz => bounds_u8 (hwf z hz)
  clear hwf
  replace hv := Lib.hid hv
  have hm := hx.max
  by_cases hbig : n0 ≤ 1048576
  case neg =>
    go_enter Try.func8, Try.ntmps8
    go_wp2
    go_ret
    exact ⟨rfl, Below.refl _ _⟩
  go_enter Try.func8, Try.ntmps8
  go_wp2_with fail
  refine (drawOldReply_any _ _ _ _ _ hx hc hv.out).mono ?_
  rintro e w1 ⟨⟨b, rfl⟩, hB1⟩
  go_wp2_with fail
  refine (oldReply_impl b _).mono ?_
  rintro e w2 ⟨A, c, rfl, ho2, hb2⟩
  have hB2 := bstep hB1 hb2
  have hr2 := Rd.own ho2
  clear ho2
  go_wp2_with fail
  refine (oldReply_spec b _).mono ?_
  rintro e w3 ⟨A3, c3, rfl, ho3, hb3⟩
  have hB3 := bstep hB2 hb3
  have hr3 := Rd.own ho3
  clear ho3
  replace hr2 := hr2.below hb3
  go_wp2_with fail
  refine (sameBytes_any _ _ _ _ _ _ _ _ _ hr2 hr3).mono ?_
  rintro e w4 ⟨rfl, hb4⟩
  rw [decide_eq_true rfl]
  have hB4 := bstep hB3 hb4
  replace hr2 := hr2.below hb4
  obtain ⟨b1, o1, rfl, hcell⟩ := hr2.cells (by omega)
  have hc0 : w4.cell? ⟨b1, o1, none⟩ = some (.int .i64 0) := hcell 0 _ rfl
  have hc1 : w4.cell? ⟨b1, o1 + 1, none⟩ = some (.int .i64 (if b then 90 else 91)) := hcell 1 _ rfl
  clear hcell
  cases b
  case false =>
    replace hc1 : w4.cell? ⟨b1, o1 + 1, none⟩ = some (.int .i64 91) := hc1
    go_wp2_with fail
    refine (oldReply_impl _ _).mono ?_
    rintro e w5 ⟨A5, c5, rfl, ho5, hb5⟩
    have hB5 := bstep hB4 hb5
    have hr5 := Rd.own ho5
    replace hr2 := hr2.below hb5
    go_wp2_with fail
    refine (sameBytes_any _ _ _ _ _ _ _ _ _ hr2 hr5).mono ?_
    rintro e w6 ⟨rfl, hb6⟩
    rw [decide_eq_false (show replyInts false ≠ replyInts true by decide)]
    have hB6 := bstep hB5 hb6
    go_wp2_with fail
    go_ret
    exact ⟨rfl, hB6⟩
  case true =>
    replace hc1 : w4.cell? ⟨b1, o1 + 1, none⟩ = some (.int .i64 90) := hc1
    go_wp2_with fail
    refine (oldReply_impl _ _).mono ?_
    rintro e w5 ⟨A5, c5, rfl, ho5, hb5⟩
    have hB5 := bstep hB4 hb5
    have hr5 := Rd.own ho5
    replace hr2 := hr2.below hb5
    go_wp2_with fail
    refine (sameBytes_any _ _ _ _ _ _ _ _ _ hr2 hr5).mono ?_
    rintro e w6 ⟨rfl, hb6⟩
    rw [decide_eq_false (show replyInts true ≠ replyInts false by decide)]
    have hB6 := bstep hB5 hb6
    go_wp2_with fail
    go_ret
    exact ⟨rfl, hB6⟩

set_option maxRecDepth 100000 in
theorem lifted_FnOldReply (os : Os) (started : os.Started) (H : Type) (enc : TypeId × Value → H) :
    ReturnsInHanded {} Try.checked os 8 .any (Rows.fnOldReplySpec.pre6 enc Try.prog Try.f8 Rows.fnOldReplyRow.domain false) (Rows.fnOldReplySpec.post enc Try.prog Try.f8 false true false false) := by
  refine returnsInHanded_of_change (C := Try.checked) row_own started (by kernel_rfl) Try.func8
    (ChangeSpec.witness6 (enc := enc) (C := Try.checked) false ⟨#[], #[.slice none 0 0], []⟩ 8 (by kernel_rfl) (by kernel_rfl) (by kernel_rfl) (by kernel_rfl)) ?_
  intro W base args ds gs before hval0 hW hcnd _
  have hval : ∀ (j : Nat) t v, Try.f8.params[j]? = some t → args[j]? = some v → Value.okWide Try.prog W .any base t v := hval0
  have hW' := hW
  obtain ⟨p, q, hA0, hV, rfl, hfz, hnd⟩ := hW
  have hA : DataW.TrodAll enc Try.prog W 0 (fun _ => true) true Try.f8.params.toList args.toList ds p := hA0
  rw [Try.params8] at hA hval
  obtain ⟨v0, vs0, d0, ds0, p0, q0, hargs, rfl, rfl, h0, r0⟩ := trodAll_cons hA
  obtain ⟨rfl, rfl, rfl⟩ := trodAll_nil r0
  obtain rfl : args = #[v0] := by cases args; simp_all
  obtain ⟨rfl, rfl⟩ := trodVars_none hV
  have k0 := h0
  have lt0 : ∀ x ∈ p0, x.block < W.heap.size := by obtain ⟨m, hm⟩ := k0; exact DataW.trod_lt m _ _ _ hm
  obtain ⟨a0, n0, c0, rfl⟩ := okWide_slice Try.underlying34 (hval 0 34 v0 rfl rfl)
  obtain ⟨z0, w0⟩ := rd_open Try.underlying34 Try.underlying5 (by kernel_rfl) h0
  clear hA0 hval0
  refine (walk_FnOldReply a0 n0 c0 z0 W w0).mono fun e W' ⟨he, bel⟩ => ?_
  subst he
  exact ⟨_, rfl, _, _, _, [], _, [], hW', trodAll_mk1 (shut_bool Try.underlying4 _), (trodAll_cons_mk (Below.trod row_laidOut (by kernel_rfl) (of_decide_eq_true (by kernel_rfl)) k0 bel lt0) trodAll_mk0), rfl, bel.frame _, fun h => by cases h⟩

theorem over_FnOldReply : Rows.fnOldReplyRow.holds Try.pinned (OpenSpec.ofChange Rows.fnOldReplySpec) :=
  OpenClaim.holds_of_wide 8 Try.f8 rfl rfl rfl rfl rfl rfl rfl ⟨rfl, rfl, rfl, rfl, rfl⟩ rfl rfl rfl rfl rfl (by kernel_rfl) Try.func8 (by kernel_rfl)
    (of_decide_eq_true (by kernel_rfl)) (by unfold Func.isWrapper; first | (rw [if_pos (by decide +kernel)]; kernel_rfl) | (rw [if_neg (by decide +kernel)]; exact ⟨rfl, rfl⟩))
    (fun os started H enc _ => lifted_FnOldReply os started H enc)

/-- The statement. -/
theorem fnOldReply_holds : Rows.FnOldReplySaid := over_FnOldReply
#print axioms fnOldReply_holds
end Go.Proofs.Ytmepbopgdlhahaa
