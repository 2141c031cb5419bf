/- The statement FnNumberOne: one byte is its number. No condition. -/
import Derived.Test.YtfhadfcdfeancaaRow
import Derived.Test.YtfhadfcdfeancaaNum
import Derived.Test.YtfhadfcdfeancaaBText
import Derived.Test.YtfhadfcdfeancaaDrawN
import Derived.Test.YtfhadfcdfeancaaNb
namespace Go.Proofs.Ytfhadfcdfeancaa
open Go.ChangeShapes Go.WideShapes Go.ChangeAt Go.RowKit
open Go.ChangeMaps (open_string shut_string)

set_option maxHeartbeats 2000000 in
theorem walk_FnNumberOne (a0 : Option Addr) (n0 c0 : Nat) (z0 : List Int) (w : World) (w0 : Rd w a0 n0 (z0.map (Value.int .u8)) ∧ n0 ≤ c0 ∧ c0 ≤ maxLen ∧ ∀ x ∈ z0, (Lit.int .u8 x).wf = true) :
    Calls Try.prog 8 #[.slice a0 n0 c0] w fun e w' => e = .returned (.bool true) ∧ Below w.heap.size w w' := by
  obtain ⟨hx, hc, _, hwf⟩ := w0
  have hv : ∀ z ∈ z0, 0 ≤ z ∧ z ≤ 255 := fun z hz => bounds_u8 (hwf z hz)
  clear hwf
  replace hv := Lib.hid hv
  have hm := hx.max
  by_cases hbig : n0 ≤ 1048576
  case neg =>
    go_enter Try.func8, Try.ntmps8
    go_wp2
    go_ret
    exact ⟨rfl, Below.refl _ _⟩
  go_enter Try.func8, Try.ntmps8
  go_wp2_with fail
  refine (drawNumberOf_any _ _ _ _ _ hx hc hv.out).mono ?_
  rintro e w1 ⟨A, n, c, zs, rfl, hn, ho1, hB1⟩
  have hr1 := Rd.own ho1
  obtain ⟨x, b, hf⟩ : ∃ x b, numO zs = (x, b) := ⟨_, _, rfl⟩
  replace hf := Lib.hid hf
  go_wp2_with fail
  refine (numberOf_impl _ _ _ _ _ hr1 _ _ hf.out).mono ?_
  rintro e w' ⟨rfl, rfl⟩
  go_wp2_with fail
  refine (numberOf_spec _ _ _ _ _ hr1 _ _ hf.out).mono ?_
  rintro e w' ⟨rfl, rfl⟩
  cases b
  case false =>
    go_wp2_with fail
    go_ret
    exact ⟨rfl, hB1⟩
  case true =>
    obtain ⟨h4, hub, -⟩ := numO_back hr1.ilen hf.out
    have hcap := (own_cap ho1).1
    obtain ⟨m, hm1⟩ : ∃ m, n = m + 1 := ⟨n - 1, by omega⟩
    subst hm1
    obtain ⟨b1, o1, z, rfl, hz, hcz⟩ := hr1.int (k := m) (by omega)
    obtain ⟨y, hy, hxy, hyb⟩ := numO_front hr1.ilen hf.out hz
    have hr2 : Rd w1 (some ⟨b1, o1, none⟩) m (ints (zs.take m)) := by simpa [ints] using hr1.take (k := m) (by omega)
    have hcst : (((m + 1 : Nat) : Int) - 1) = (m : Int) := by omega
    replace hy := Lib.hid hy
    replace hf := Lib.hid hf
    subst hxy
    clear ho1 hr1 hz hf
    by_cases h0 : m = 0
    · subst h0
      have hd : decide ((0 : Int) < ((0 : Nat) : Int)) = false := rfl
      rw [show decide (0 < 0) = false from rfl] at hy
      have hcz0 : w1.cell? ⟨b1, o1, none⟩ = some (.int .i64 z) := hcz
      clear hcz
      go_wp2_with fail
      refine (numberOf_impl _ _ _ _ _ hr2 _ _ hy.out).mono ?_
      rintro e w' ⟨rfl, rfl⟩
      go_wp2_with fail
      go_ret
      exact ⟨by simp, hB1⟩
    · have hd : decide (0 < (m : Int)) = true := by simp; omega
      rw [show decide (0 < m) = true by simp; omega] at hy
      go_wp2_with fail
      refine (numberOf_impl _ _ _ _ _ hr2 _ _ hy.out).mono ?_
      rintro e w' ⟨rfl, rfl⟩
      go_wp2_with fail
      go_ret
      exact ⟨by simp, hB1⟩

set_option maxRecDepth 100000 in
theorem lifted_FnNumberOne (os : Os) (started : os.Started) (H : Type) (enc : TypeId × Value → H) :
    ReturnsInHanded {} Try.checked os 8 .any (Rows.fnNumberOneSpec.pre6 enc Try.prog Try.f8 Rows.fnNumberOneRow.domain false) (Rows.fnNumberOneSpec.post enc Try.prog Try.f8 false true false false) := by
  refine returnsInHanded_of_change (C := Try.checked) row_own started (by kernel_rfl) Try.func8
    (ChangeSpec.witness6 (enc := enc) (C := Try.checked) false ⟨#[], #[.slice none 0 0], []⟩ 8 (by kernel_rfl) (by kernel_rfl) (by kernel_rfl) (by kernel_rfl)) ?_
  intro W base args ds gs before hval0 hW hcnd _
  have hval : ∀ (j : Nat) t v, Try.f8.params[j]? = some t → args[j]? = some v → Value.okWide Try.prog W .any base t v := hval0
  have hW' := hW
  obtain ⟨p, q, hA0, hV, rfl, hfz, hnd⟩ := hW
  have hA : DataW.TrodAll enc Try.prog W 0 (fun _ => true) true Try.f8.params.toList args.toList ds p := hA0
  rw [Try.params8] at hA hval
  obtain ⟨v0, vs0, d0, ds0, p0, q0, hargs, rfl, rfl, h0, r0⟩ := trodAll_cons hA
  obtain ⟨rfl, rfl, rfl⟩ := trodAll_nil r0
  obtain rfl : args = #[v0] := by cases args; simp_all
  obtain ⟨rfl, rfl⟩ := trodVars_none hV
  have k0 := h0
  have lt0 : ∀ x ∈ p0, x.block < W.heap.size := by obtain ⟨m, hm⟩ := k0; exact DataW.trod_lt m _ _ _ hm
  obtain ⟨a0, n0, c0, rfl⟩ := okWide_slice Try.underlying30 (hval 0 30 v0 rfl rfl)
  obtain ⟨z0, w0⟩ := rd_open Try.underlying30 Try.underlying5 (by kernel_rfl) h0
  clear hA0 hval0
  refine (walk_FnNumberOne a0 n0 c0 z0 W w0).mono fun e W' ⟨he, bel⟩ => ?_
  subst he
  exact ⟨_, rfl, _, _, _, [], _, [], hW', trodAll_mk1 (shut_bool Try.underlying4 _), (trodAll_cons_mk (Below.trod row_laidOut (by kernel_rfl) (of_decide_eq_true (by kernel_rfl)) k0 bel lt0) trodAll_mk0), rfl, bel.frame _, fun h => by cases h⟩

theorem over_FnNumberOne : Rows.fnNumberOneRow.holds Try.pinned (OpenSpec.ofChange Rows.fnNumberOneSpec) :=
  OpenClaim.holds_of_wide 8 Try.f8 rfl rfl rfl rfl rfl rfl rfl ⟨rfl, rfl, rfl, rfl, rfl⟩ rfl rfl rfl rfl rfl (by kernel_rfl) Try.func8 (by kernel_rfl)
    (of_decide_eq_true (by kernel_rfl)) (by unfold Func.isWrapper; first | (rw [if_pos (by decide +kernel)]; kernel_rfl) | (rw [if_neg (by decide +kernel)]; exact ⟨rfl, rfl⟩))
    (fun os started H enc _ => lifted_FnNumberOne os started H enc)

/-- The statement. -/
theorem fnNumberOne_holds : Rows.FnNumberOneSaid := over_FnNumberOne
#print axioms fnNumberOne_holds
end Go.Proofs.Ytfhadfcdfeancaa
