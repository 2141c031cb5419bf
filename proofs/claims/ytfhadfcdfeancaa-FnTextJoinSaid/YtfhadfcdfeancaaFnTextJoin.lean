/- The statement FnTextJoin: texts may be joined. No condition. -/
import Derived.Test.YtfhadfcdfeancaaRow
import Derived.Test.YtfhadfcdfeancaaText
import Derived.Test.YtfhadfcdfeancaaDrawT
import Derived.Test.YtfhadfcdfeancaaNb
namespace Go.Proofs.Ytfhadfcdfeancaa
open Go.ChangeShapes Go.WideShapes Go.ChangeAt Go.RowKit
open Go.ChangeMaps (open_string shut_string)

set_option maxHeartbeats 2000000 in
theorem walk_FnTextJoin (a0 : Option Addr) (n0 c0 : Nat) (z0 : List Int) (a1 : Option Addr) (n1 c1 : Nat) (z1 : List Int) (w : World) (w0 : Rd w a0 n0 (z0.map (Value.int .u8)) ∧ n0 ≤ c0 ∧ c0 ≤ maxLen ∧ ∀ x ∈ z0, (Lit.int .u8 x).wf = true) (w1 : Rd w a1 n1 (z1.map (Value.int .u8)) ∧ n1 ≤ c1 ∧ c1 ≤ maxLen ∧ ∀ x ∈ z1, (Lit.int .u8 x).wf = true) :
    Calls Try.prog 7 #[.slice a0 n0 c0, .slice a1 n1 c1] w fun e w' => e = .returned (.bool true) ∧ Below w.heap.size w w' := by
  obtain ⟨hx, hc, _, hwf⟩ := w0
  have hv : ∀ z ∈ z0, 0 ≤ z ∧ z ≤ 255 := fun z hz => bounds_u8 (hwf z hz)
  clear hwf
  replace hv := Lib.hid hv
  have hm := hx.max
  have hm1 := w1.1.max
  clear w1
  by_cases hbig : n0 ≤ 1048576
  case neg =>
    have hd : decide (1048576 < (n0 : Int)) = true := by simp; omega
    go_enter Try.func7, Try.ntmps7
    go_wp2
    go_ret
    exact ⟨rfl, Below.refl _ _⟩
  have hd : decide (1048576 < (n0 : Int)) = false := by simp; omega
  by_cases hbig1 : n1 ≤ 1048576
  case neg =>
    have hd1 : decide (1048576 < (n1 : Int)) = true := by simp; omega
    go_enter Try.func7, Try.ntmps7
    go_wp2
    go_ret
    exact ⟨rfl, Below.refl _ _⟩
  have hd1 : decide (1048576 < (n1 : Int)) = false := by simp; omega
  go_enter Try.func7, Try.ntmps7
  go_wp2_with fail
  refine (drawTextBytes_any _ _ _ _ _ hx hc hv.out).mono ?_
  rintro e w1 ⟨⟨s, rfl, hs⟩, hB1⟩
  have i1 : (n1 : Int) % ((s.size : Int) + 1) = ((n1 % (s.size + 1) : Nat) : Int) := by simp
  have hk : n1 % (s.size + 1) ≤ s.size := by have := Nat.mod_lt n1 (show 0 < s.size + 1 by omega); omega
  generalize n1 % (s.size + 1) = k at i1 hk
  obtain ⟨zs, b, hf⟩ : ∃ zs b, textB s = (zs, b) := ⟨_, _, rfl⟩
  replace hf := Lib.hid hf
  go_wp2_with fail
  refine (textBytes_impl s _ (by omega) zs b hf.out).mono ?_
  rintro e w2 ⟨A, n, c, rfl, ho2, hb2⟩
  have hB2 := bstep hB1 hb2
  have hr2 := Rd.own ho2
  go_wp2_with fail
  refine (textBytes_spec s _ (by omega) zs b hf.out).mono ?_
  rintro e w3 ⟨A3, n3, c3, rfl, ho3, hb3⟩
  have hB3 := bstep hB2 hb3
  have hr3 := Rd.own ho3
  replace hr2 := hr2.below hb3
  replace ho2 := own_below ho2 hb3
  clear ho3
  go_wp2_with fail
  refine (sameBytes_any _ _ _ _ _ _ _ _ _ hr2 hr3).mono ?_
  rintro e w4 ⟨rfl, hb4⟩
  rw [decide_eq_true rfl]
  have hB4 := bstep hB3 hb4
  replace hr2 := hr2.below hb4
  replace hr3 := hr3.below hb4
  replace ho2 := own_below ho2 hb4
  cases b
  case false =>
    go_wp2_with fail
    refine (sameBytes_any _ _ _ _ _ _ _ _ _ hr2 hr3).mono ?_
    rintro e w5 ⟨rfl, hb5⟩
    rw [decide_eq_true rfl]
    go_wp2_with fail
    go_ret
    exact ⟨rfl, bstep hB4 hb5⟩
  case true =>
    obtain ⟨hzs, hs1, -⟩ := textB_back hf.out
    have f1 : textB (s.extract 0 k) = (sInts (s.extract 0 k), true) := textB_short (by rw [ByteArray.size_extract]; omega)
    have f2 : textB (s.extract k s.size) = (sInts (s.extract k s.size), true) := textB_short (by rw [ByteArray.size_extract]; omega)
    have f3 : sInts (s.extract 0 k) ++ sInts (s.extract k s.size) = zs := by rw [hzs]; exact sInts_halves s k
    have l1 : (sInts (s.extract 0 k)).length ≤ 120 := by rw [sInts_length, ByteArray.size_extract]; omega
    have l2 : (sInts (s.extract k s.size)).length ≤ 120 := by rw [sInts_length, ByteArray.size_extract]; omega
    have g1 : (s.extract 0 k).size ≤ 9223372036854775807 := by rw [ByteArray.size_extract]; omega
    have g2 : (s.extract k s.size).size ≤ 9223372036854775807 := by rw [ByteArray.size_extract]; omega
    replace f1 := Lib.hid f1
    replace f2 := Lib.hid f2
    replace f3 := Lib.hid f3
    replace g1 := Lib.hid g1
    replace g2 := Lib.hid g2
    replace hzs := Lib.hid hzs
    clear ho2 hr3
    go_wp2_with fail
    refine (textBytes_impl _ _ g1.out _ _ f1.out).mono ?_
    rintro e w5 ⟨A5, n5, c5, rfl, ho5, hb5⟩
    have hr5 := Rd.own ho5
    have hB5 := bstep hB4 hb5
    replace hr2 := hr2.below hb5
    go_wp2_with fail
    refine (textBytes_impl _ _ g2.out _ _ f2.out).mono ?_
    rintro e w6 ⟨A6, n6, c6, rfl, ho6, hb6⟩
    have hr6 := Rd.own ho6
    have hB6 := bstep hB5 hb6
    replace hr2 := hr2.below hb6
    replace hr5 := hr5.below hb6
    have hl5 : n5 ≤ 120 := by have := hr5.ilen; omega
    have hl6 : n6 ≤ 120 := by have := hr6.ilen; omega
    clear ho5 ho6 l1 l2 hb5 hb6
    have hr5' := hr5.alloc (.cells #[] 3)
    go_wp2_with (at_builtin; refine wpList_append_rd _ rfl _ _ rfl w6.heap.size _ _ _ _ rfl (own_empty w6) _ _ _ _ rfl hr5' (by omega) (by simp) ?_)
    intro A7 c7 w7 ho7 hg7
    have hB7 := bgrow (bstep hB6 ((Below.refl _ _).alloc (Nat.le_refl _) (.cells #[] 3))) hg7 fun k hk => by simp [Value.ownBlock] at hk; have := hB6.size; omega
    have hr2' := (hr2.alloc (.cells #[] 3)).grown hg7 (hr2.old (Nat.le_refl _))
    have hap2 := hr2.apart (Nat.le_refl _) ho7
    have hr6' := (hr6.alloc (.cells #[] 3)).grown hg7 (hr6.old (Nat.le_refl _))
    have hsz : w6.heap.size ≤ w7.heap.size := by have := hg7.size; simp at this; omega
    go_wp2_with (at_builtin; refine wpList_append_rd _ rfl _ _ rfl w6.heap.size _ _ _ _ rfl ho7 _ _ _ _ rfl hr6' (by omega) hsz ?_)
    intro A8 c8 w8 ho8 hg8
    have hB8 := bgrow hB7 hg8 fun k hk => Nat.le_trans hB6.size (own_frees ho7 k hk)
    have hr9 := hr2'.grown hg8 hap2
    have hr8 : Rd w8 A8 (n5 + n6) (ints zs) := by rw [← f3.out]; simpa [ints] using Rd.own ho8
    clear hr2 hr2' hr5 hr5' hr6 hr6' hg7 hg8 ho7 ho8 hap2
    go_wp2_with fail
    refine (sameBytes_any _ _ _ _ _ _ _ _ _ hr8 hr9).mono ?_
    rintro e w9 ⟨rfl, hb9⟩
    rw [decide_eq_true rfl]
    go_wp2_with fail
    go_ret
    exact ⟨rfl, bstep hB8 hb9⟩

set_option maxRecDepth 100000 in
theorem lifted_FnTextJoin (os : Os) (started : os.Started) (H : Type) (enc : TypeId × Value → H) :
    ReturnsInHanded {} Try.checked os 7 .any (Rows.fnTextJoinSpec.pre6 enc Try.prog Try.f7 Rows.fnTextJoinRow.domain false) (Rows.fnTextJoinSpec.post enc Try.prog Try.f7 false true false false) := by
  refine returnsInHanded_of_change (C := Try.checked) row_own started (by kernel_rfl) Try.func7
    (ChangeSpec.witness6 (enc := enc) (C := Try.checked) false ⟨#[], #[.slice none 0 0, .slice none 0 0], []⟩ 8 (by kernel_rfl) (by kernel_rfl) (by kernel_rfl) (by kernel_rfl)) ?_
  intro W base args ds gs before hval0 hW hcnd _
  have hval : ∀ (j : Nat) t v, Try.f7.params[j]? = some t → args[j]? = some v → Value.okWide Try.prog W .any base t v := hval0
  have hW' := hW
  obtain ⟨p, q, hA0, hV, rfl, hfz, hnd⟩ := hW
  have hA : DataW.TrodAll enc Try.prog W 0 (fun _ => true) true Try.f7.params.toList args.toList ds p := hA0
  rw [Try.params7] at hA hval
  obtain ⟨v0, vs0, d0, ds0, p0, q0, hargs, rfl, rfl, h0, r0⟩ := trodAll_cons hA
  obtain ⟨v1, vs1, d1, ds1, p1, q1, rfl, rfl, rfl, h1, r1⟩ := trodAll_cons r0
  obtain ⟨rfl, rfl, rfl⟩ := trodAll_nil r1
  obtain rfl : args = #[v0, v1] := by cases args; simp_all
  obtain ⟨rfl, rfl⟩ := trodVars_none hV
  have k0 := h0
  have lt0 : ∀ x ∈ p0, x.block < W.heap.size := by obtain ⟨m, hm⟩ := k0; exact DataW.trod_lt m _ _ _ hm
  obtain ⟨a0, n0, c0, rfl⟩ := okWide_slice Try.underlying30 (hval 0 30 v0 rfl rfl)
  obtain ⟨z0, w0⟩ := rd_open Try.underlying30 Try.underlying5 (by kernel_rfl) h0
  have k1 := h1
  have lt1 : ∀ x ∈ p1, x.block < W.heap.size := by obtain ⟨m, hm⟩ := k1; exact DataW.trod_lt m _ _ _ hm
  obtain ⟨a1, n1, c1, rfl⟩ := okWide_slice Try.underlying30 (hval 1 30 v1 rfl rfl)
  obtain ⟨z1, w1⟩ := rd_open Try.underlying30 Try.underlying5 (by kernel_rfl) h1
  clear hA0 hval0
  refine (walk_FnTextJoin a0 n0 c0 z0 a1 n1 c1 z1 W w0 w1).mono fun e W' ⟨he, bel⟩ => ?_
  subst he
  exact ⟨_, rfl, _, _, _, [], _, [], hW', trodAll_mk1 (shut_bool Try.underlying4 _), (trodAll_cons_mk (Below.trod row_laidOut (by kernel_rfl) (of_decide_eq_true (by kernel_rfl)) k0 bel lt0) (trodAll_cons_mk (Below.trod row_laidOut (by kernel_rfl) (of_decide_eq_true (by kernel_rfl)) k1 bel lt1) trodAll_mk0)), rfl, bel.frame _, fun h => by cases h⟩

theorem over_FnTextJoin : Rows.fnTextJoinRow.holds Try.pinned (OpenSpec.ofChange Rows.fnTextJoinSpec) :=
  OpenClaim.holds_of_wide 7 Try.f7 rfl rfl rfl rfl rfl rfl rfl ⟨rfl, rfl, rfl, rfl, rfl⟩ rfl rfl rfl rfl rfl (by kernel_rfl) Try.func7 (by kernel_rfl)
    (of_decide_eq_true (by kernel_rfl)) (by unfold Func.isWrapper; first | (rw [if_pos (by decide +kernel)]; kernel_rfl) | (rw [if_neg (by decide +kernel)]; exact ⟨rfl, rfl⟩))
    (fun os started H enc _ => lifted_FnTextJoin os started H enc)

/-- The statement. -/
theorem fnTextJoin_holds : Rows.FnTextJoinSaid := over_FnTextJoin
#print axioms fnTextJoin_holds
end Go.Proofs.Ytfhadfcdfeancaa
