/- The statement FnNameParts: points stand between letters. No condition. -/
import Derived.Test.YtfikfihcjddgnaaDoorCard
import Derived.Test.YtfikfihcjddgnaaDoorName
import Derived.Test.YtfikfihcjddgnaaDoorDrawH
namespace Go.Proofs.YtfikfihcjddgnaaDoor
open Go.ChangeShapes Go.WideShapes Go.ChangeAt Go.RowKit
open Go.ChangeMaps (open_string shut_string)

set_option maxHeartbeats 2000000 in
theorem walk_FnNameParts (a0 : Option Addr) (n0 c0 : Nat) (z0 : List Int) (w : World) (w0 : Rd w a0 n0 (z0.map (Value.int .u8)) ∧ n0 ≤ c0 ∧ c0 ≤ maxLen ∧ ∀ x ∈ z0, (Lit.int .u8 x).wf = true) (hM : EnvM w) :
    Calls Tryd.prog 6 #[.slice a0 n0 c0] w fun e w' => e = .returned (.bool true) ∧ Below w.heap.size w w' := by
  obtain ⟨hx, hc, _, hwf⟩ := w0
  have hv : ∀ z ∈ z0, 0 ≤ z ∧ z ≤ 255 := fun z hz => bounds_u8 (hwf z hz)
  clear hwf
  replace hv := Lib.hid hv
  have hm := hx.max
  by_cases hbig : n0 ≤ 1048576
  case neg =>
    go_enter Tryd.func6, Tryd.ntmps6
    go_wp2
    go_ret
    exact ⟨rfl, Below.refl _ _⟩
  go_enter Tryd.func6, Tryd.ntmps6
  go_wp2_with fail
  refine (drawNameValid_any _ _ _ _ _ hx hc hv.out).mono ?_
  rintro e w1 ⟨⟨s, rfl, hs⟩, hB1⟩
  replace hM := hM.step hB1
  obtain ⟨r, hr⟩ : ∃ r, nameV (lets s) = r := ⟨_, rfl⟩
  replace hr := Lib.hid hr
  go_wp2_with fail
  refine (nameValid_impl s _ hM (by omega) _ hr.out).mono ?_
  rintro e w2 ⟨rfl, hb2⟩
  have hB2 := bstep hB1 hb2
  replace hM := hM.step hb2
  go_wp2_with fail
  refine (nameValid_spec s _ (by omega) _ hr.out).mono ?_
  rintro e w3 ⟨rfl, hb3⟩
  have hB3 := bstep hB2 hb3
  replace hM := hM.step hb3
  clear hb2 hb3 hB1 hB2
  cases r
  case false =>
    go_wp2_with fail
    go_ret
    exact ⟨rfl, hB3⟩
  case true =>
    obtain ⟨hno, hfirst, hlast⟩ := nameV_points hr.out
    obtain ⟨hs1, hs20⟩ := nameV_size hr.out
    rw [lets_length] at hlast hs1 hs20
    have h46 : ∀ (k : Nat) (h : k < s.size), (lets s)[k]? ≠ some 46 → ((s[k]'h).toNat : Int) ≠ 46 := by
      intro k h hne e
      rw [lets_at h] at hne
      exact hne (by congr 1; exact UInt8.toNat_inj.1 (by have : ((46 : UInt8)).toNat = 46 := rfl; omega))
    have e46 : ∀ (k : Nat) (h : k < s.size), ((s[k]'h).toNat : Int) = 46 → (lets s)[k]? = some 46 := by
      intro k h e
      rw [lets_at h]
      congr 1
      exact UInt8.toNat_inj.1 (by have : ((46 : UInt8)).toNat = 46 := rfl; omega)
    have q0 := h46 0 (by omega) hfirst
    have ql := h46 (s.size - 1) (by omega) hlast
    clear hfirst hlast
    have q0' : (((s[0]'(by omega)).toNat : Int) != 46) = true := by simpa using q0
    obtain ⟨m, hm1, hcm⟩ : ∃ m : Nat, m = s.size - 1 ∧ (s.size : Int) - 1 = (m : Int) := ⟨s.size - 1, rfl, by omega⟩
    have hml : m < s.size := by omega
    have ql' : (((s[m]'hml).toNat : Int) != 46) = true := by
      subst hm1
      simpa using ql
    clear q0 ql hm1
    replace hno := Lib.hid hno
    replace h46 := Lib.hid h46
    replace e46 := Lib.hid e46
    clear hr
    have hs20' : (s.size : Int) ≤ 20 := by omega
    go_wp2_with fail
    go_loop [6] (fun i => ∃ k : Nat, 1 ≤ k ∧ k ≤ s.size ∧ i = .int .i64 k) (fun i => s.size - (intOf i).toNat)
    case atStart => exact ⟨1, Nat.le_refl _, hs1, rfl⟩
    case round =>
      obtain ⟨k, hk1, hk, rfl⟩ := hrel
      by_cases hlt : k < s.size
      · obtain ⟨j, hj1, hcj⟩ : ∃ j : Nat, j + 1 = k ∧ (k : Int) - 1 = (j : Int) := ⟨k - 1, by omega, by omega⟩
        have hjl : j < s.size := by omega
        have hlt' : (k : Int) < (s.size : Int) := by omega
        by_cases c1 : ((s[k]'hlt).toNat : Int) = 46
        · have c1' : (((s[k]'hlt).toNat : Int) == 46) = true := by simpa using c1
          have c2 : (((s[j]'hjl).toNat : Int) == 46) = false := by
            rw [beq_eq_false_iff_ne]
            intro e
            have := hno.out j (e46.out j hjl e)
            rw [hj1] at this
            exact this (e46.out k hlt c1)
          replace c1 := Lib.hid c1
          replace hj1 := Lib.hid hj1
          go_wp2_with fail
          go_round
          case rel => exact ⟨k + 1, by omega, by omega, by go_num⟩
          case measure => simp [intOf]; omega
        · have c1' : (((s[k]'hlt).toNat : Int) == 46) = false := by simpa using c1
          replace c1 := Lib.hid c1
          replace hj1 := Lib.hid hj1
          go_wp2_with fail
          go_round
          case rel => exact ⟨k + 1, by omega, by omega, by go_num⟩
          case measure => simp [intOf]; omega
      · have hk' : ¬ (k : Int) < (s.size : Int) := by omega
        go_wp2_with fail
        go_ret
        exact ⟨rfl, hB3⟩

/-- A world for the witness: what the variables' door leaves, and the pinned table. -/
noncomputable def laidWorld_FnNameParts (os : Os) : World :=
  { World.doorLaid Tryd.prog 34 os with heap := (World.doorLaid Tryd.prog 34 os).heap.modify 1 fun
      | .cells _ t frozen => .cells (Go.Pinned.utf8FirstZ.map fun (z : Nat) => Value.int .u8 (z : Int)).toArray t frozen
      | o => o }
theorem laid_met_FnNameParts (os : Os) : laidMet Tryd.prog Rows.fnNamePartsRow.laid ((laidWorld_FnNameParts os).forCall (fun _ _ => 0) ⟨#[], #[.slice none 0 0], []⟩).memory :=
  laidMet_of_run' 8 (by kernel_rfl) (by kernel_rfl)
theorem reads_FnNameParts (os : Os) {H : Type} (enc : TypeId × Value → H) : ∃ places, DataW.whole enc Tryd.prog ((laidWorld_FnNameParts os).forCall (fun _ _ => 0) ⟨#[], #[.slice none 0 0], []⟩).memory Tryd.f6.params.toList Rows.fnNamePartsSpec.vars false (#[.slice none 0 0] : Array Value).toList 8 = some ([.nil], [], places) :=
  ⟨[], by kernel_rfl⟩
set_option maxRecDepth 100000 in
theorem lifted_FnNameParts (os : Os) (started : os.Started) (H : Type) (enc : TypeId × Value → H) (F : Stop.Interp) :
    ReturnsInHanded {} Tryd.checked os 6 .any ((OpenSpec.ofChange Rows.fnNamePartsSpec).preRow enc Tryd.prog Tryd.f6 Rows.fnNamePartsRow.domain false Rows.fnNamePartsRow.laid) (((OpenSpec.ofChange Rows.fnNamePartsSpec).at F).post enc Tryd.prog Tryd.f6 false true false false) := by
  obtain ⟨places, hx⟩ := reads_FnNameParts os enc
  refine returnsInHanded_of_row (C := Tryd.checked) (s := OpenSpec.ofChange Rows.fnNamePartsSpec) row_own started (by kernel_rfl) Tryd.func6
    (witness_row_at (enc := enc) (C := Tryd.checked) false (laidWorld_FnNameParts os) #[.slice none 0 0] rfl (by kernel_rfl) (by kernel_rfl) (by kernel_rfl)
      (OpenSpec.preRow_of_cond 8 hx (by kernel_rfl) (fun k hk => by cases hk) (by kernel_rfl) (laid_met_FnNameParts os))) ?_
  intro W base args ds gs before hval0 hW _ _ _ hL hsh _
  have hval : ∀ (j : Nat) t v, Tryd.f6.params[j]? = some t → args[j]? = some v → Value.okWide Tryd.prog W .any base t v := hval0
  have hW' := hW
  obtain ⟨p, q, hA0, hV, rfl, hfz, hnd⟩ := hW
  have hA : DataW.TrodAll enc Tryd.prog W 0 (fun _ => true) true Tryd.f6.params.toList args.toList ds p := hA0
  rw [Tryd.params6] at hA hval
  obtain ⟨v0, vs0, d0, ds0, p0, q0, hargs, rfl, rfl, h0, r0⟩ := trodAll_cons hA
  obtain ⟨rfl, rfl, rfl⟩ := trodAll_nil r0
  obtain rfl : args = #[v0] := by cases args; simp_all
  obtain ⟨rfl, rfl⟩ := trodVars_none hV
  have k0 := h0
  have lt0 : ∀ x ∈ p0, x.block < W.heap.size := by obtain ⟨m, hm⟩ := k0; exact DataW.trod_lt m _ _ _ hm
  obtain ⟨a0, n0, c0, rfl⟩ := okWide_slice Tryd.underlying23 (hval 0 23 v0 rfl rfl)
  obtain ⟨z0, w0⟩ := rd_open Tryd.underlying23 Tryd.underlying5 (by kernel_rfl) h0
  clear hA0 hval0
  have hM : EnvM W := envM_shaped hsh
  clear hL hsh
  refine (walk_FnNameParts a0 n0 c0 z0 W w0 hM).mono fun e W' ⟨he, bel⟩ => ?_
  subst he
  exact ⟨_, rfl, _, _, _, [], _, [], hW', trodAll_mk1 (shut_bool Tryd.underlying4 _), (trodAll_cons_mk (Below.trod row_laidOut (by kernel_rfl) (of_decide_eq_true (by kernel_rfl)) k0 bel lt0) trodAll_mk0), rfl, bel.frame _, fun h => by cases h⟩

theorem over_FnNameParts : Rows.FnNamePartsSaid :=
  OpenClaim.holds_of_cond 6 Tryd.f6 rfl rfl rfl rfl rfl rfl rfl ⟨rfl, rfl, rfl, rfl, rfl⟩ rfl rfl rfl rfl rfl (by kernel_rfl) Tryd.func6 (by kernel_rfl)
    (of_decide_eq_true (by kernel_rfl)) (by unfold Func.isWrapper; first | (rw [if_pos (by decide +kernel)]; kernel_rfl) | (rw [if_neg (by decide +kernel)]; exact ⟨rfl, rfl⟩))
    (fun os started H enc _ F => by rw [OpenClaim.pre_eq_preRow]; exact lifted_FnNameParts os started H enc F)
theorem plain_FnNameParts (f : FuncId) (fn : Func) (hf : Tryd.pinned.checked.prog.funcNamed "loop.example/proxyframes/laws.FnNameParts" = some f) (hfn : Tryd.pinned.checked.prog.funcs[f]? = some fn) :
    false = Tryd.pinned.checked.prog.looks [] ∧ ∀ (j : Nat) t, fn.params[j]? = some t → Tryd.pinned.checked.prog.wantsStandIn t = false := by
  obtain rfl : f = 6 := Option.some.inj ((show Tryd.prog.funcNamed "loop.example/proxyframes/laws.FnNameParts" = some 6 by kernel_rfl).symm.trans hf) |>.symm
  obtain rfl : fn = Tryd.f6 := (Option.some.inj (Tryd.func6.symm.trans hfn)).symm
  refine ⟨by kernel_rfl, fun j t ht => ?_⟩
  rw [Tryd.params6] at ht
  obtain rfl : t = 23 := by simpa using Array.mem_of_getElem? ht
  exact (show Tryd.prog.wantsStandIn 23 = false by kernel_rfl)

/-- The statement. -/
theorem fnNameParts_holds : Rows.FnNamePartsCardSaid :=
  Claim7.holds_tied_plain_at .later [] _ _ _ _ over_FnNameParts (fun _ h => by cases h) (by kernel_rfl) (fun _ h => by cases h) fnNameParts_row_tie rfl ⟨rfl, rfl⟩ (by kernel_rfl) rfl plain_FnNameParts (by kernel_rfl)
#print axioms fnNameParts_holds
end Go.Proofs.YtfikfihcjddgnaaDoor
