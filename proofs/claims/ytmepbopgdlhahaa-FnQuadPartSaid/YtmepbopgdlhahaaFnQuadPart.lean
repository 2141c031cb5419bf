/- The statement FnQuadPart: there are four bytes. No condition. -/
import Derived.Test.YtmepbopgdlhahaaRow
import Derived.Test.YtmepbopgdlhahaaBytes
import Derived.Test.YtmepbopgdlhahaaDrawQ
import Derived.Test.YtmepbopgdlhahaaApp
namespace Go.Proofs.Ytmepbopgdlhahaa
open Go.ChangeShapes Go.WideShapes Go.ChangeAt Go.RowKit
open Go.ChangeMaps (open_string shut_string)

theorem qv_true {zs : List Int} : qv zs = true ↔ zs.length = 4 ∧ bv zs = true := by simp [qv]
theorem qv_length {zs : List Int} (h : zs.length ≠ 4) : qv zs = false := by simp [qv, h]

set_option maxHeartbeats 2000000 in
theorem walk_FnQuadPart (a0 : Option Addr) (n0 c0 : Nat) (z0 : List Int) (w : World) (w0 : Rd w a0 n0 (z0.map (Value.int .u8)) ∧ n0 ≤ c0 ∧ c0 ≤ maxLen ∧ ∀ x ∈ z0, (Lit.int .u8 x).wf = true) :
    Calls Try.prog 12 #[.slice a0 n0 c0] w fun e w' => e = .returned (.bool true) ∧ Below w.heap.size w w' := by
  obtain ⟨hx, hc, _, hwf⟩ := w0
  have hv : ∀ z ∈ z0, 0 ≤ z ∧ z ≤ 255 := fun z hz => bounds_u8 (hwf z hz)
  clear hwf
  replace hv := Lib.hid hv
  have hm := hx.max
  by_cases hbig : n0 ≤ 1048576
  case neg =>
    go_enter Try.func12, Try.ntmps12
    go_wp2
    go_ret
    exact ⟨rfl, Below.refl _ _⟩
  go_enter Try.func12, Try.ntmps12
  go_wp2_with fail
  refine (drawQuadValid_any _ _ _ _ _ hx hc hv.out).mono ?_
  rintro e w1 ⟨A, n, c, zs, rfl, hn, ho1, hB1⟩
  have hr1 := Rd.own ho1
  obtain ⟨r, hr⟩ : ∃ r, qv zs = r := ⟨_, rfl⟩
  replace hr := Lib.hid hr
  go_wp2_with fail
  refine (quadValid_impl _ _ _ _ _ hr1 _ hr.out).mono ?_
  rintro e w' ⟨rfl, rfl⟩
  go_wp2_with fail
  refine (quadValid_spec _ _ _ _ _ hr1 _ hr.out).mono ?_
  rintro e w' ⟨rfl, rfl⟩
  cases r
  case false =>
    go_wp2_with fail
    go_ret
    exact ⟨rfl, hB1⟩
  case true =>
    obtain ⟨hl4, hbv⟩ := qv_true.1 hr.out
    have hn4 : n = 4 := by have := hr1.ilen; omega
    subst hn4
    have hcap := (own_cap ho1).1
    have hr3 := hr1.take (k := 3) (by omega)
    rw [← List.map_take] at hr3
    have q3 : qv (zs.take 3) = false := qv_length (by simp; omega)
    have q5 : qv (zs ++ [1]) = false := qv_length (by simp; omega)
    replace hl4 := Lib.hid hl4
    replace hbv := Lib.hid hbv
    replace q3 := Lib.hid q3
    replace q5 := Lib.hid q5
    clear hr ho1
    go_wp2_with fail
    refine (quadValid_impl _ _ _ _ _ hr3 _ q3.out).mono ?_
    rintro e w' ⟨rfl, rfl⟩
    have ho2 := own_empty w1
    have hr1' := hr1.alloc (.cells #[] 3)
    go_wp2_with (at_builtin; refine wpList_append_rd _ rfl _ _ rfl w1.heap.size _ _ _ _ rfl ho2 _ _ _ _ rfl hr1' (by omega) (by simp) ?_)
    intro A3 c3 w3 ho3 hg3
    have hB3 := bgrow (bstep hB1 ((Below.refl _ _).alloc (Nat.le_refl _) (.cells #[] 3))) hg3 fun k hk => by simp [Value.ownBlock] at hk; have := hB1.size; omega
    have hrq := hr1'.grown hg3 (hr1.old (Nat.le_refl _))
    have hone := rd_lit w3 3 #[.int .i64 1] 1 (by omega) rfl
    have hsz : w1.heap.size ≤ w3.heap.size := by have := hg3.size; simp at this; omega
    have hap := hr1.apart (Nat.le_refl _) ho3
    clear hr1' hg3 hr3 hr1 ho2
    go_wp2_with (at_builtin; refine wpList_append_rd _ rfl _ _ rfl w1.heap.size _ _ _ _ rfl (ho3.alloc _) _ _ _ [1] rfl hone (by omega) (by simp; omega) ?_)
    intro A4 c4 w4 ho4 hg4
    have hB4 := bgrow (bstep hB3 ((Below.refl _ _).alloc (Nat.le_refl _) (.cells #[.int .i64 1] 3))) hg4 fun k hk => Nat.le_trans hB1.size (own_frees ho3 k hk)
    have hrq4 := (hrq.alloc (.cells #[.int .i64 1] 3)).grown hg4 hap
    have hr5 : Rd w4 A4 5 (ints (zs ++ [1])) := by simpa [ints] using Rd.own ho4
    replace hr5 := Lib.hid hr5
    clear hone hrq ho3 ho4 hg4 hB3
    go_wp2_with fail
    refine (quadValid_impl _ _ _ _ _ hr5.out _ q5.out).mono ?_
    rintro e w' ⟨rfl, rfl⟩
    go_wp2_with fail
    refine (bytesValid_impl _ _ _ _ _ hrq4 _ hbv.out).mono ?_
    rintro e w' ⟨rfl, rfl⟩
    go_wp2_with fail
    go_ret
    exact ⟨rfl, hB4⟩

set_option maxRecDepth 100000 in
theorem lifted_FnQuadPart (os : Os) (started : os.Started) (H : Type) (enc : TypeId × Value → H) :
    ReturnsInHanded {} Try.checked os 12 .any (Rows.fnQuadPartSpec.pre6 enc Try.prog Try.f12 Rows.fnQuadPartRow.domain false) (Rows.fnQuadPartSpec.post enc Try.prog Try.f12 false true false false) := by
  refine returnsInHanded_of_change (C := Try.checked) row_own started (by kernel_rfl) Try.func12
    (ChangeSpec.witness6 (enc := enc) (C := Try.checked) false ⟨#[], #[.slice none 0 0], []⟩ 8 (by kernel_rfl) (by kernel_rfl) (by kernel_rfl) (by kernel_rfl)) ?_
  intro W base args ds gs before hval0 hW hcnd _
  have hval : ∀ (j : Nat) t v, Try.f12.params[j]? = some t → args[j]? = some v → Value.okWide Try.prog W .any base t v := hval0
  have hW' := hW
  obtain ⟨p, q, hA0, hV, rfl, hfz, hnd⟩ := hW
  have hA : DataW.TrodAll enc Try.prog W 0 (fun _ => true) true Try.f12.params.toList args.toList ds p := hA0
  rw [Try.params12] at hA hval
  obtain ⟨v0, vs0, d0, ds0, p0, q0, hargs, rfl, rfl, h0, r0⟩ := trodAll_cons hA
  obtain ⟨rfl, rfl, rfl⟩ := trodAll_nil r0
  obtain rfl : args = #[v0] := by cases args; simp_all
  obtain ⟨rfl, rfl⟩ := trodVars_none hV
  have k0 := h0
  have lt0 : ∀ x ∈ p0, x.block < W.heap.size := by obtain ⟨m, hm⟩ := k0; exact DataW.trod_lt m _ _ _ hm
  obtain ⟨a0, n0, c0, rfl⟩ := okWide_slice Try.underlying34 (hval 0 34 v0 rfl rfl)
  obtain ⟨z0, w0⟩ := rd_open Try.underlying34 Try.underlying5 (by kernel_rfl) h0
  clear hA0 hval0
  refine (walk_FnQuadPart a0 n0 c0 z0 W w0).mono fun e W' ⟨he, bel⟩ => ?_
  subst he
  exact ⟨_, rfl, _, _, _, [], _, [], hW', trodAll_mk1 (shut_bool Try.underlying4 _), (trodAll_cons_mk (Below.trod row_laidOut (by kernel_rfl) (of_decide_eq_true (by kernel_rfl)) k0 bel lt0) trodAll_mk0), rfl, bel.frame _, fun h => by cases h⟩

theorem over_FnQuadPart : Rows.fnQuadPartRow.holds Try.pinned (OpenSpec.ofChange Rows.fnQuadPartSpec) :=
  OpenClaim.holds_of_wide 12 Try.f12 rfl rfl rfl rfl rfl rfl rfl ⟨rfl, rfl, rfl, rfl, rfl⟩ rfl rfl rfl rfl rfl (by kernel_rfl) Try.func12 (by kernel_rfl)
    (of_decide_eq_true (by kernel_rfl)) (by unfold Func.isWrapper; first | (rw [if_pos (by decide +kernel)]; kernel_rfl) | (rw [if_neg (by decide +kernel)]; exact ⟨rfl, rfl⟩))
    (fun os started H enc _ => lifted_FnQuadPart os started H enc)

/-- The statement. -/
theorem fnQuadPart_holds : Rows.FnQuadPartSaid := over_FnQuadPart
#print axioms fnQuadPart_holds
end Go.Proofs.Ytmepbopgdlhahaa
