/- The statement FnBytes: bytes have a range. No condition. -/
import Derived.Test.YtmepbopgdlhahaaRow
import Derived.Test.YtmepbopgdlhahaaBytes
import Derived.Test.YtmepbopgdlhahaaDrawB
import Derived.Test.YtmepbopgdlhahaaZeros
namespace Go.Proofs.Ytmepbopgdlhahaa
open Go.ChangeShapes Go.WideShapes Go.ChangeAt Go.RowKit
open Go.ChangeMaps (open_string shut_string)

theorem bv_256 (zs : List Int) : bv (zs ++ [256]) = false := by simp [bv, inR]
theorem bv_long (zs ys : List Int) (h : 121 ≤ ys.length) : bv (zs ++ ys) = false := by
  unfold bv
  rw [decide_eq_false (by simp; omega), Bool.false_and]
theorem bv_take {zs : List Int} (k : Nat) (h : bv zs = true) : bv (zs.take k) = true := by
  obtain ⟨h1, h2⟩ := bv_true.1 h
  exact bv_true.2 ⟨by simp; omega, fun x hx => h2 x (List.mem_of_mem_take hx)⟩
theorem bv_append {zs ys : List Int} (h : zs.length + ys.length ≤ 120) (h1 : bv zs = true) (h2 : bv ys = true) : bv (zs ++ ys) = true := by
  refine bv_true.2 ⟨by simpa using h, fun x hx => ?_⟩
  rcases List.mem_append.1 hx with hx | hx
  · exact (bv_true.1 h1).2 x hx
  · exact (bv_true.1 h2).2 x hx

set_option maxHeartbeats 2000000 in
theorem walk_FnBytes (a0 : Option Addr) (n0 c0 : Nat) (z0 : List Int) (w : World) (w0 : Rd w a0 n0 (z0.map (Value.int .u8)) ∧ n0 ≤ c0 ∧ c0 ≤ maxLen ∧ ∀ x ∈ z0, (Lit.int .u8 x).wf = true) :
    Calls Try.prog 11 #[.slice a0 n0 c0] w fun e w' => e = .returned (.bool true) ∧ Below w.heap.size w w' := by
  obtain ⟨hx, hc, _, hwf⟩ := w0
  have hv : ∀ z ∈ z0, 0 ≤ z ∧ z ≤ 255 := fun z hz => bounds_u8 (hwf z hz)
  clear hwf
  replace hv := Lib.hid hv
  have hm := hx.max
  by_cases hbig : n0 ≤ 1048576
  case neg =>
    go_enter Try.func11, Try.ntmps11
    go_wp2
    go_ret
    exact ⟨rfl, Below.refl _ _⟩
  go_enter Try.func11, Try.ntmps11
  go_wp2_with fail
  refine (drawBytesValid_any _ _ _ _ _ hx hc hv.out).mono ?_
  rintro e w1 ⟨A, n, c, zs, rfl, hn, ho1, hB1⟩
  have hr1 := Rd.own ho1
  obtain ⟨r, hr⟩ : ∃ r, bv zs = r := ⟨_, rfl⟩
  replace hr := Lib.hid hr
  go_wp2_with fail
  refine (bytesValid_impl _ _ _ _ _ hr1 _ hr.out).mono ?_
  rintro e w' ⟨rfl, rfl⟩
  go_wp2_with fail
  refine (bytesValid_spec _ _ _ _ _ hr1 _ hr.out).mono ?_
  rintro e w' ⟨rfl, rfl⟩
  cases r
  case false =>
    go_wp2_with fail
    go_ret
    exact ⟨rfl, hB1⟩
  case true =>
    have hcap := (own_cap ho1).1
    have hl := hr1.ilen
    have q1 : bv (zs ++ [256]) = false := bv_256 zs
    obtain ⟨N, hN⟩ : ∃ N : Nat, N = 121 := ⟨_, rfl⟩
    have q2 : bv (zs ++ List.replicate N 0) = false := bv_long zs _ (by simp; omega)
    replace hN := Lib.hid hN
    have q3 : bv (zs.take (n - 1)) = true := bv_take _ hr.out
    replace hr := Lib.hid hr
    replace q1 := Lib.hid q1
    replace q2 := Lib.hid q2
    replace q3 := Lib.hid q3
    replace hl := Lib.hid hl
    clear ho1
    have hr1' := hr1.alloc (.cells #[] 3)
    go_wp2_with (at_builtin; refine wpList_append_rd _ rfl _ _ rfl w1.heap.size _ _ _ _ rfl (own_empty w1) _ _ _ _ rfl hr1' (by omega) (by simp) ?_)
    intro A3 c3 w3 ho3 hg3
    have hB3 := bgrow (bstep hB1 ((Below.refl _ _).alloc (Nat.le_refl _) (.cells #[] 3))) hg3 fun k hk => by simp [Value.ownBlock] at hk; have := hB1.size; omega
    have hrq := hr1'.grown hg3 (hr1.old (Nat.le_refl _))
    have hone := rd_lit w3 3 #[.int .i64 256] 1 (by omega) rfl
    have hsz : w1.heap.size ≤ w3.heap.size := by have := hg3.size; simp at this; omega
    have hap := hr1.apart (Nat.le_refl _) ho3
    clear hr1' hg3 hr1
    go_wp2_with (at_builtin; refine wpList_append_rd _ rfl _ _ rfl w1.heap.size _ _ _ _ rfl (ho3.alloc _) _ _ _ [256] rfl hone (by omega) (by simp; omega) ?_)
    intro A4 c4 w4 ho4 hg4
    have hB4 := bgrow (bstep hB3 ((Below.refl _ _).alloc (Nat.le_refl _) (.cells #[.int .i64 256] 3))) hg4 fun k hk => Nat.le_trans hB1.size (own_frees ho3 k hk)
    have hrq4 := (hrq.alloc (.cells #[.int .i64 256] 3)).grown hg4 hap
    have hr5 : Rd w4 A4 (n + 1) (ints (zs ++ [256])) := by simpa [ints] using Rd.own ho4
    replace hr5 := Lib.hid hr5
    clear hone hrq ho3 ho4 hg4 hB3 hap hsz
    go_wp2_with fail
    refine (bytesValid_impl _ _ _ _ _ hr5.out _ q1.out).mono ?_
    rintro e w' ⟨rfl, rfl⟩
    clear hr5
    have hr6 := hrq4.alloc (.cells #[] 3)
    go_wp2_with (at_builtin; refine wpList_append_rd _ rfl _ _ rfl w4.heap.size _ _ _ _ rfl (own_empty w4) _ _ _ _ rfl hr6 (by omega) (by simp) ?_)
    intro A6 c6 w6 ho6 hg6
    have hB6 := bgrow (bstep hB4 ((Below.refl _ _).alloc (Nat.le_refl _) (.cells #[] 3))) hg6 fun k hk => by simp [Value.ownBlock] at hk; have := hB4.size; omega
    have hrq6 := hr6.grown hg6 (hrq4.old (Nat.le_refl _))
    have hap := hrq4.apart (Nat.le_refl _) ho6
    have hsz : w4.heap.size ≤ w6.heap.size := by have := hg6.size; simp at this; omega
    clear hr6 hg6 hrq4
    go_wp2_with (at_builtin; refine wpList_append_zeros _ rfl _ _ rfl w4.heap.size _ _ _ _ rfl ho6 N _ rfl (by have := hN.out; omega) (by have := hN.out; omega) (by have := hN.out; omega) hsz ?_)
    intro A7 c7 w7 ho7 hg7
    have hB7 := bgrow hB6 hg7 fun k hk => Nat.le_trans hB4.size (own_frees ho6 k hk)
    have hrq7 := hrq6.grown hg7 hap
    have hr7 : Rd w7 A7 (n + N) (ints (zs ++ List.replicate N 0)) := by simpa [ints] using Rd.own ho7
    replace hr7 := Lib.hid hr7
    clear ho7 hg7 hrq6 ho6 hap hsz hB6
    go_wp2_with fail
    refine (bytesValid_impl _ _ _ _ _ hr7.out _ q2.out).mono ?_
    rintro e w' ⟨rfl, rfl⟩
    clear hr7
    by_cases h0 : n = 0
    · subst h0
      go_wp2_with fail
      go_ret
      exact ⟨rfl, hB7⟩
    · have hd : ((n : Int) == 0) = false := by simp; omega
      have hr8 : Rd w7 A (n - 1) (ints (zs.take (n - 1))) := by simpa [ints] using hrq7.take (k := n - 1) (by omega)
      have hcst : ((n : Int) - 1) = ((n - 1 : Nat) : Int) := by omega
      have hn1 : n - 1 ≤ c := by omega
      generalize n - 1 = n1 at hr8 hcst q3 hn1
      go_wp2_with fail
      refine (bytesValid_impl _ _ _ _ _ hr8 _ q3.out).mono ?_
      rintro e w' ⟨rfl, rfl⟩
      go_wp2_with fail
      go_ret
      exact ⟨rfl, hB7⟩

set_option maxRecDepth 100000 in
theorem lifted_FnBytes (os : Os) (started : os.Started) (H : Type) (enc : TypeId × Value → H) :
    ReturnsInHanded {} Try.checked os 11 .any (Rows.fnBytesSpec.pre6 enc Try.prog Try.f11 Rows.fnBytesRow.domain false) (Rows.fnBytesSpec.post enc Try.prog Try.f11 false true false false) := by
  refine returnsInHanded_of_change (C := Try.checked) row_own started (by kernel_rfl) Try.func11
    (ChangeSpec.witness6 (enc := enc) (C := Try.checked) false ⟨#[], #[.slice none 0 0], []⟩ 8 (by kernel_rfl) (by kernel_rfl) (by kernel_rfl) (by kernel_rfl)) ?_
  intro W base args ds gs before hval0 hW hcnd _
  have hval : ∀ (j : Nat) t v, Try.f11.params[j]? = some t → args[j]? = some v → Value.okWide Try.prog W .any base t v := hval0
  have hW' := hW
  obtain ⟨p, q, hA0, hV, rfl, hfz, hnd⟩ := hW
  have hA : DataW.TrodAll enc Try.prog W 0 (fun _ => true) true Try.f11.params.toList args.toList ds p := hA0
  rw [Try.params11] at hA hval
  obtain ⟨v0, vs0, d0, ds0, p0, q0, hargs, rfl, rfl, h0, r0⟩ := trodAll_cons hA
  obtain ⟨rfl, rfl, rfl⟩ := trodAll_nil r0
  obtain rfl : args = #[v0] := by cases args; simp_all
  obtain ⟨rfl, rfl⟩ := trodVars_none hV
  have k0 := h0
  have lt0 : ∀ x ∈ p0, x.block < W.heap.size := by obtain ⟨m, hm⟩ := k0; exact DataW.trod_lt m _ _ _ hm
  obtain ⟨a0, n0, c0, rfl⟩ := okWide_slice Try.underlying34 (hval 0 34 v0 rfl rfl)
  obtain ⟨z0, w0⟩ := rd_open Try.underlying34 Try.underlying5 (by kernel_rfl) h0
  clear hA0 hval0
  refine (walk_FnBytes a0 n0 c0 z0 W w0).mono fun e W' ⟨he, bel⟩ => ?_
  subst he
  exact ⟨_, rfl, _, _, _, [], _, [], hW', trodAll_mk1 (shut_bool Try.underlying4 _), (trodAll_cons_mk (Below.trod row_laidOut (by kernel_rfl) (of_decide_eq_true (by kernel_rfl)) k0 bel lt0) trodAll_mk0), rfl, bel.frame _, fun h => by cases h⟩

theorem over_FnBytes : Rows.fnBytesRow.holds Try.pinned (OpenSpec.ofChange Rows.fnBytesSpec) :=
  OpenClaim.holds_of_wide 11 Try.f11 rfl rfl rfl rfl rfl rfl rfl ⟨rfl, rfl, rfl, rfl, rfl⟩ rfl rfl rfl rfl rfl (by kernel_rfl) Try.func11 (by kernel_rfl)
    (of_decide_eq_true (by kernel_rfl)) (by unfold Func.isWrapper; first | (rw [if_pos (by decide +kernel)]; kernel_rfl) | (rw [if_neg (by decide +kernel)]; exact ⟨rfl, rfl⟩))
    (fun os started H enc _ => lifted_FnBytes os started H enc)

/-- The statement. -/
theorem fnBytes_holds : Rows.FnBytesSaid := over_FnBytes
#print axioms fnBytes_holds
end Go.Proofs.Ytmepbopgdlhahaa
