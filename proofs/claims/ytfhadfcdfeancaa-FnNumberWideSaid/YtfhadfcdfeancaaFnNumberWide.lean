/- The statement FnNumberWide: with more bytes there is a zero in front. No condition. -/
import Derived.Test.YtfhadfcdfeancaaRow
import Derived.Test.YtfhadfcdfeancaaNum
import Derived.Test.YtfhadfcdfeancaaDrawN
import Derived.Test.YtfhadfcdfeancaaNb
namespace Go.Proofs.Ytfhadfcdfeancaa
open Go.ChangeShapes Go.WideShapes Go.ChangeAt Go.RowKit
open Go.ChangeMaps (open_string shut_string)

set_option maxHeartbeats 2000000 in
theorem walk_FnNumberWide (a0 : Option Addr) (n0 c0 : Nat) (z0 : List Int) (w : World) (w0 : Rd w a0 n0 (z0.map (Value.int .u8)) ∧ n0 ≤ c0 ∧ c0 ≤ maxLen ∧ ∀ x ∈ z0, (Lit.int .u8 x).wf = true) :
    Calls Try.prog 6 #[.slice a0 n0 c0] w fun e w' => e = .returned (.bool true) ∧ Below w.heap.size w w' := by
  obtain ⟨hx, hc, _, hwf⟩ := w0
  have hv : ∀ z ∈ z0, 0 ≤ z ∧ z ≤ 255 := fun z hz => bounds_u8 (hwf z hz)
  clear hwf
  replace hv := Lib.hid hv
  have hm := hx.max
  by_cases hbig : n0 ≤ 1048576
  case neg =>
    go_enter Try.func6, Try.ntmps6
    go_wp2
    go_ret
    exact ⟨rfl, Below.refl _ _⟩
  go_enter Try.func6, Try.ntmps6
  go_wp2_with fail
  refine (drawNumberBytes_any _ _ _ _ _ hx hc hv.out).mono ?_
  rintro e w1 ⟨⟨x, width, rfl, hxb, hwb⟩, hB1⟩
  obtain ⟨zs, b, hf⟩ : ∃ zs b, numB x width = (zs, b) := ⟨_, _, rfl⟩
  have hzl := numB_length hf
  replace hf := Lib.hid hf
  go_wp2_with fail
  refine (numberBytes_impl x width (by omega) _ zs b hf.out).mono ?_
  rintro e w2 ⟨A, n, c, rfl, ho2, hb2⟩
  have hB2 := bstep hB1 hb2
  have hr2 := Rd.own ho2
  go_wp2_with fail
  refine (numberBytes_spec x width (by omega) _ zs b hf.out).mono ?_
  rintro e w3 ⟨A3, n3, c3, rfl, ho3, hb3⟩
  have hB3 := bstep hB2 hb3
  have hr3 := Rd.own ho3
  replace hr2 := hr2.below hb3
  replace ho2 := own_below ho2 hb3
  clear ho3
  go_wp2_with fail
  refine (sameBytes_any _ _ _ _ _ _ _ _ _ hr2 hr3).mono ?_
  rintro e w4 ⟨rfl, hb4⟩
  rw [decide_eq_true rfl]
  have hB4 := bstep hB3 hb4
  replace hr2 := hr2.below hb4
  replace hr3 := hr3.below hb4
  replace ho2 := own_below ho2 hb4
  cases b
  case false =>
    go_wp2_with fail
    refine (sameBytes_any _ _ _ _ _ _ _ _ _ hr2 hr3).mono ?_
    rintro e w5 ⟨rfl, hb5⟩
    rw [decide_eq_true rfl]
    go_wp2_with fail
    go_ret
    exact ⟨rfl, bstep hB4 hb5⟩
  case true =>
    obtain ⟨rfl, hfit⟩ : zs = nb x width.toNat ∧ fits x width = true := by
      rcases numB_cases hf.out with ⟨_, h1, h2⟩ | ⟨h, _, _⟩
      · exact ⟨h1, h2⟩
      · cases h
    obtain ⟨⟨hw1, hw4⟩, hx0, hxp⟩ := fits_true.1 hfit
    obtain ⟨k, rfl⟩ := Int.eq_ofNat_of_zero_le (show 0 ≤ width by omega)
    have hk : 1 ≤ k ∧ k ≤ 4 := by omega
    rw [Int.toNat_natCast] at *
    rw [pow256_eq hk rfl] at hxp
    clear hf hfit
    have hn : n = k := by have := hr2.ilen; rw [nb_length] at this; omega
    subst hn
    by_cases h4 : n = 4
    case pos =>
      subst h4
      go_wp2_with fail
      refine (sameBytes_any _ _ _ _ _ _ _ _ _ hr2 hr3).mono ?_
      rintro e w5 ⟨rfl, hb5⟩
      rw [decide_eq_true rfl]
      go_wp2_with fail
      go_ret
      exact ⟨rfl, bstep hB4 hb5⟩
    case neg =>
      have hne : ((n : Int) == 4) = false := by simp; omega
      have hf1 := numB_fits (k := n + 1) (x := x) (by omega) hx0 (by rw [Int.pow_succ]; omega)
      rw [nb_wide _ _ hx0 hxp] at hf1
      rw [show ((n + 1 : Nat) : Int) = (n : Int) + 1 by omega] at hf1
      replace hf1 := Lib.hid hf1
      go_wp2_with fail
      refine (numberBytes_impl x ((n : Int) + 1) (by omega) _ _ _ hf1.out).mono ?_
      rintro e w5 ⟨A5, n5, c5, rfl, ho5, hb5⟩
      have hB5 := bstep hB4 hb5
      have hr5 := Rd.own ho5
      have hcap := (own_cap ho5).1
      have hn5 : n5 = n + 1 := by have := hr5.ilen; simp [nb_length] at this; omega
      subst hn5
      replace hr2 := hr2.below hb5
      obtain ⟨b1, o1, rfl, hcell⟩ := hr5.cells (by omega)
      have hc0 : w5.cell? ⟨b1, o1, none⟩ = some (.int .i64 0) := hcell 0 _ rfl
      clear hcell ho5
      have hr6 : Rd w5 (some ⟨b1, o1 + 1, none⟩) n (ints (nb x n)) := by simpa [ints] using hr5.drop (k := 1) (by omega)
      go_wp2_with fail
      refine (sameBytes_any _ _ _ _ _ _ _ _ _ hr6 hr2).mono ?_
      rintro e w6 ⟨rfl, hb6⟩
      rw [decide_eq_true rfl]
      go_wp2_with fail
      go_ret
      exact ⟨rfl, bstep hB5 hb6⟩

set_option maxRecDepth 100000 in
theorem lifted_FnNumberWide (os : Os) (started : os.Started) (H : Type) (enc : TypeId × Value → H) :
    ReturnsInHanded {} Try.checked os 6 .any (Rows.fnNumberWideSpec.pre6 enc Try.prog Try.f6 Rows.fnNumberWideRow.domain false) (Rows.fnNumberWideSpec.post enc Try.prog Try.f6 false true false false) := by
  refine returnsInHanded_of_change (C := Try.checked) row_own started (by kernel_rfl) Try.func6
    (ChangeSpec.witness6 (enc := enc) (C := Try.checked) false ⟨#[], #[.slice none 0 0], []⟩ 8 (by kernel_rfl) (by kernel_rfl) (by kernel_rfl) (by kernel_rfl)) ?_
  intro W base args ds gs before hval0 hW hcnd _
  have hval : ∀ (j : Nat) t v, Try.f6.params[j]? = some t → args[j]? = some v → Value.okWide Try.prog W .any base t v := hval0
  have hW' := hW
  obtain ⟨p, q, hA0, hV, rfl, hfz, hnd⟩ := hW
  have hA : DataW.TrodAll enc Try.prog W 0 (fun _ => true) true Try.f6.params.toList args.toList ds p := hA0
  rw [Try.params6] at hA hval
  obtain ⟨v0, vs0, d0, ds0, p0, q0, hargs, rfl, rfl, h0, r0⟩ := trodAll_cons hA
  obtain ⟨rfl, rfl, rfl⟩ := trodAll_nil r0
  obtain rfl : args = #[v0] := by cases args; simp_all
  obtain ⟨rfl, rfl⟩ := trodVars_none hV
  have k0 := h0
  have lt0 : ∀ x ∈ p0, x.block < W.heap.size := by obtain ⟨m, hm⟩ := k0; exact DataW.trod_lt m _ _ _ hm
  obtain ⟨a0, n0, c0, rfl⟩ := okWide_slice Try.underlying30 (hval 0 30 v0 rfl rfl)
  obtain ⟨z0, w0⟩ := rd_open Try.underlying30 Try.underlying5 (by kernel_rfl) h0
  clear hA0 hval0
  refine (walk_FnNumberWide a0 n0 c0 z0 W w0).mono fun e W' ⟨he, bel⟩ => ?_
  subst he
  exact ⟨_, rfl, _, _, _, [], _, [], hW', trodAll_mk1 (shut_bool Try.underlying4 _), (trodAll_cons_mk (Below.trod row_laidOut (by kernel_rfl) (of_decide_eq_true (by kernel_rfl)) k0 bel lt0) trodAll_mk0), rfl, bel.frame _, fun h => by cases h⟩

theorem over_FnNumberWide : Rows.fnNumberWideRow.holds Try.pinned (OpenSpec.ofChange Rows.fnNumberWideSpec) :=
  OpenClaim.holds_of_wide 6 Try.f6 rfl rfl rfl rfl rfl rfl rfl ⟨rfl, rfl, rfl, rfl, rfl⟩ rfl rfl rfl rfl rfl (by kernel_rfl) Try.func6 (by kernel_rfl)
    (of_decide_eq_true (by kernel_rfl)) (by unfold Func.isWrapper; first | (rw [if_pos (by decide +kernel)]; kernel_rfl) | (rw [if_neg (by decide +kernel)]; exact ⟨rfl, rfl⟩))
    (fun os started H enc _ => lifted_FnNumberWide os started H enc)

/-- The statement. -/
theorem fnNumberWide_holds : Rows.FnNumberWideSaid := over_FnNumberWide
#print axioms fnNumberWide_holds
end Go.Proofs.Ytfhadfcdfeancaa
