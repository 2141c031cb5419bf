/- The statement FnUser: a user has small letters and digits. No condition. -/
import Derived.Test.YtmepbopgdlhahaaRow
import Derived.Test.YtmepbopgdlhahaaUser
import Derived.Test.YtmepbopgdlhahaaDraw
import Derived.Lib.Strings
namespace Go.Proofs.Ytmepbopgdlhahaa
open Go.ChangeShapes Go.WideShapes Go.ChangeAt Go.RowKit
open Go.ChangeMaps (open_string shut_string)

theorem sInts_append (s t : ByteArray) : sInts (s ++ t) = sInts s ++ sInts t := by
  simp [sInts]
theorem sInts_extract (s : ByteArray) (k : Nat) : sInts (s.extract 0 k) = (sInts s).take k := by
  simp [sInts]
theorem userV_dash {zs : List Int} : userV (zs ++ [45]) = false := by
  simp [userV, ldB, inR]
theorem userV_long {zs : List Int} (t : List Int) (h : 9 ≤ t.length) : userV (zs ++ t) = false := by
  unfold userV
  rw [decide_eq_false (by simp; omega), Bool.false_and]
theorem userV_take {zs : List Int} (k : Nat) (h : userV zs = true) : userV (zs.take k) = true := by
  unfold userV at h ⊢
  simp only [Bool.and_eq_true, decide_eq_true_eq, List.all_eq_true] at h ⊢
  exact ⟨by simp; omega, fun x hx => h.2 x (List.mem_of_mem_take hx)⟩

set_option maxHeartbeats 1000000 in
theorem walk_FnUser (a0 : Option Addr) (n0 c0 : Nat) (z0 : List Int) (a1 : Option Addr) (n1 c1 : Nat) (z1 : List Int) (w : World) (w0 : Rd w a0 n0 (z0.map (Value.int .u8)) ∧ n0 ≤ c0 ∧ c0 ≤ maxLen ∧ ∀ x ∈ z0, (Lit.int .u8 x).wf = true) (w1 : Rd w a1 n1 (z1.map (Value.int .u8)) ∧ n1 ≤ c1 ∧ c1 ≤ maxLen ∧ ∀ x ∈ z1, (Lit.int .u8 x).wf = true) :
    Calls Try.prog 10 #[.slice a0 n0 c0, .slice a1 n1 c1] w fun e w' => e = .returned (.bool true) ∧ Below w.heap.size w w' := by
  obtain ⟨hx, hc, _, hwf⟩ := w0
  have hm1 := w1.1.max
  clear w1
  have hv : ∀ z ∈ z0, 0 ≤ z ∧ z ≤ 255 := fun z hz => bounds_u8 (hwf z hz)
  clear hwf
  replace hv := Lib.hid hv
  have hm := hx.max
  by_cases hbig : n0 ≤ 1048576
  case neg =>
    have hd : decide (1048576 < (n0 : Int)) = true := by simp; omega
    go_enter Try.func10, Try.ntmps10
    go_wp2
    go_ret
    exact ⟨rfl, Below.refl _ _⟩
  have hd : decide (1048576 < (n0 : Int)) = false := by simp; omega
  by_cases hbig1 : n1 ≤ 1048576
  case neg =>
    have hd1 : decide (1048576 < (n1 : Int)) = true := by simp; omega
    go_enter Try.func10, Try.ntmps10
    go_wp2
    go_ret
    exact ⟨rfl, Below.refl _ _⟩
  have hd1 : decide (1048576 < (n1 : Int)) = false := by simp; omega
  go_enter Try.func10, Try.ntmps10
  go_wp2_with fail
  refine (drawUserValid_any _ _ _ _ _ hx hc hv.out).mono ?_
  rintro e w1 ⟨⟨s, rfl, hs⟩, hB1⟩
  have hs' : s.size ≤ 9223372036854775807 := by omega
  obtain ⟨r, hr⟩ : ∃ r, userV (sInts s) = r := ⟨_, rfl⟩
  have f1 : userV (sInts (s ++ ⟨#[45]⟩)) = false := by rw [sInts_append]; exact userV_dash
  have f2 : userV (sInts (s ++ ⟨#[97, 97, 97, 97, 97, 97, 97, 97, 97]⟩)) = false := by rw [sInts_append]; exact userV_long _ (by decide)
  have f3 : ∀ k, r = true → userV (sInts (s.extract 0 k)) = true := fun k e => by rw [sInts_extract]; exact userV_take k (hr.trans e)
  have g1 : (s ++ (⟨#[45]⟩ : ByteArray)).size ≤ 9223372036854775807 := by rw [ByteArray.size_append]; have : (⟨#[45]⟩ : ByteArray).size = 1 := rfl; omega
  have g2 : (s ++ (⟨#[97, 97, 97, 97, 97, 97, 97, 97, 97]⟩ : ByteArray)).size ≤ 9223372036854775807 := by rw [ByteArray.size_append]; have : (⟨#[97, 97, 97, 97, 97, 97, 97, 97, 97]⟩ : ByteArray).size = 9 := rfl; omega
  have i1 : (n1 : Int) % ((s.size : Int) + 1) = ((n1 % (s.size + 1) : Nat) : Int) := by simp
  have hk : n1 % (s.size + 1) ≤ s.size := by have := Nat.mod_lt n1 (show 0 < s.size + 1 by omega); omega
  generalize n1 % (s.size + 1) = k at i1 hk
  have g3 : (s.extract 0 k).size ≤ 9223372036854775807 := by rw [ByteArray.size_extract]; omega
  replace hr := Lib.hid hr
  replace f1 := Lib.hid f1
  replace f2 := Lib.hid f2
  replace g1 := Lib.hid g1
  replace g2 := Lib.hid g2
  replace g3 := Lib.hid g3
  go_wp2_with fail
  refine (userValid_impl _ _ hs' _ hr.out).mono ?_
  rintro e w' ⟨rfl, rfl⟩
  go_wp2_with fail
  refine (userValid_spec _ _ hs' _ hr.out).mono ?_
  rintro e w' ⟨rfl, rfl⟩
  cases r
  case false =>
    clear f3
    go_wp2_with fail
    go_ret
    exact ⟨rfl, hB1⟩
  case true =>
    have f3' := f3 k rfl
    clear f3
    replace f3' := Lib.hid f3'
    go_wp2_with fail
    refine (userValid_impl _ _ g1.out _ f1.out).mono ?_
    rintro e w' ⟨rfl, rfl⟩
    go_wp2_with fail
    refine (userValid_impl _ _ g2.out _ f2.out).mono ?_
    rintro e w' ⟨rfl, rfl⟩
    go_wp2_with fail
    refine (userValid_impl _ _ g3.out _ f3'.out).mono ?_
    rintro e w' ⟨rfl, rfl⟩
    go_wp2_with fail
    go_ret
    exact ⟨rfl, hB1⟩

set_option maxRecDepth 100000 in
theorem lifted_FnUser (os : Os) (started : os.Started) (H : Type) (enc : TypeId × Value → H) :
    ReturnsInHanded {} Try.checked os 10 .any (Rows.fnUserSpec.pre6 enc Try.prog Try.f10 Rows.fnUserRow.domain false) (Rows.fnUserSpec.post enc Try.prog Try.f10 false true false false) := by
  refine returnsInHanded_of_change (C := Try.checked) row_own started (by kernel_rfl) Try.func10
    (ChangeSpec.witness6 (enc := enc) (C := Try.checked) false ⟨#[], #[.slice none 0 0, .slice none 0 0], []⟩ 8 (by kernel_rfl) (by kernel_rfl) (by kernel_rfl) (by kernel_rfl)) ?_
  intro W base args ds gs before hval0 hW hcnd _
  have hval : ∀ (j : Nat) t v, Try.f10.params[j]? = some t → args[j]? = some v → Value.okWide Try.prog W .any base t v := hval0
  have hW' := hW
  obtain ⟨p, q, hA0, hV, rfl, hfz, hnd⟩ := hW
  have hA : DataW.TrodAll enc Try.prog W 0 (fun _ => true) true Try.f10.params.toList args.toList ds p := hA0
  rw [Try.params10] at hA hval
  obtain ⟨v0, vs0, d0, ds0, p0, q0, hargs, rfl, rfl, h0, r0⟩ := trodAll_cons hA
  obtain ⟨v1, vs1, d1, ds1, p1, q1, rfl, rfl, rfl, h1, r1⟩ := trodAll_cons r0
  obtain ⟨rfl, rfl, rfl⟩ := trodAll_nil r1
  obtain rfl : args = #[v0, v1] := by cases args; simp_all
  obtain ⟨rfl, rfl⟩ := trodVars_none hV
  have k0 := h0
  have lt0 : ∀ x ∈ p0, x.block < W.heap.size := by obtain ⟨m, hm⟩ := k0; exact DataW.trod_lt m _ _ _ hm
  obtain ⟨a0, n0, c0, rfl⟩ := okWide_slice Try.underlying34 (hval 0 34 v0 rfl rfl)
  obtain ⟨z0, w0⟩ := rd_open Try.underlying34 Try.underlying5 (by kernel_rfl) h0
  have k1 := h1
  have lt1 : ∀ x ∈ p1, x.block < W.heap.size := by obtain ⟨m, hm⟩ := k1; exact DataW.trod_lt m _ _ _ hm
  obtain ⟨a1, n1, c1, rfl⟩ := okWide_slice Try.underlying34 (hval 1 34 v1 rfl rfl)
  obtain ⟨z1, w1⟩ := rd_open Try.underlying34 Try.underlying5 (by kernel_rfl) h1
  clear hA0 hval0
  refine (walk_FnUser a0 n0 c0 z0 a1 n1 c1 z1 W w0 w1).mono fun e W' ⟨he, bel⟩ => ?_
  subst he
  exact ⟨_, rfl, _, _, _, [], _, [], hW', trodAll_mk1 (shut_bool Try.underlying4 _), (trodAll_cons_mk (Below.trod row_laidOut (by kernel_rfl) (of_decide_eq_true (by kernel_rfl)) k0 bel lt0) (trodAll_cons_mk (Below.trod row_laidOut (by kernel_rfl) (of_decide_eq_true (by kernel_rfl)) k1 bel lt1) trodAll_mk0)), rfl, bel.frame _, fun h => by cases h⟩

theorem over_FnUser : Rows.fnUserRow.holds Try.pinned (OpenSpec.ofChange Rows.fnUserSpec) :=
  OpenClaim.holds_of_wide 10 Try.f10 rfl rfl rfl rfl rfl rfl rfl ⟨rfl, rfl, rfl, rfl, rfl⟩ rfl rfl rfl rfl rfl (by kernel_rfl) Try.func10 (by kernel_rfl)
    (of_decide_eq_true (by kernel_rfl)) (by unfold Func.isWrapper; first | (rw [if_pos (by decide +kernel)]; kernel_rfl) | (rw [if_neg (by decide +kernel)]; exact ⟨rfl, rfl⟩))
    (fun os started H enc _ => lifted_FnUser os started H enc)

/-- The statement. -/
theorem fnUser_holds : Rows.FnUserSaid := over_FnUser
#print axioms fnUser_holds
end Go.Proofs.Ytmepbopgdlhahaa
