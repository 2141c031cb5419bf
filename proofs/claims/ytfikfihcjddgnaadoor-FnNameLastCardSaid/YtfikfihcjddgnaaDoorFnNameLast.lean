/- The statement FnNameLast: the last part begins with a letter. No condition. -/
import Derived.Test.YtfikfihcjddgnaaDoorCard
import Derived.Test.YtfikfihcjddgnaaDoorName
import Derived.Test.YtfikfihcjddgnaaDoorDrawH
namespace Go.Proofs.YtfikfihcjddgnaaDoor
open Go.ChangeShapes Go.WideShapes Go.ChangeAt Go.RowKit
open Go.ChangeMaps (open_string shut_string)

set_option maxHeartbeats 2000000 in
theorem walk_FnNameLast (a0 : Option Addr) (n0 c0 : Nat) (z0 : List Int) (w : World) (w0 : Rd w a0 n0 (z0.map (Value.int .u8)) ∧ n0 ≤ c0 ∧ c0 ≤ maxLen ∧ ∀ x ∈ z0, (Lit.int .u8 x).wf = true) (hM : EnvM w) :
    Calls Tryd.prog 5 #[.slice a0 n0 c0] w fun e w' => e = .returned (.bool true) ∧ Below w.heap.size w w' := by
  obtain ⟨hx, hc, _, hwf⟩ := w0
  have hv : ∀ z ∈ z0, 0 ≤ z ∧ z ≤ 255 := fun z hz => bounds_u8 (hwf z hz)
  clear hwf
  replace hv := Lib.hid hv
  have hm := hx.max
  by_cases hbig : n0 ≤ 1048576
  case neg =>
    go_enter Tryd.func5, Tryd.ntmps5
    go_wp2
    go_ret
    exact ⟨rfl, Below.refl _ _⟩
  go_enter Tryd.func5, Tryd.ntmps5
  go_wp2_with fail
  refine (drawNameValid_any _ _ _ _ _ hx hc hv.out).mono ?_
  rintro e w1 ⟨⟨s, rfl, hs⟩, hB1⟩
  replace hM := hM.step hB1
  obtain ⟨r, hr⟩ : ∃ r, nameV (lets s) = r := ⟨_, rfl⟩
  replace hr := Lib.hid hr
  go_wp2_with fail
  refine (nameValid_impl s _ hM (by omega) _ hr.out).mono ?_
  rintro e w2 ⟨rfl, hb2⟩
  have hB2 := bstep hB1 hb2
  replace hM := hM.step hb2
  go_wp2_with fail
  refine (nameValid_spec s _ (by omega) _ hr.out).mono ?_
  rintro e w3 ⟨rfl, hb3⟩
  have hB3 := bstep hB2 hb3
  replace hM := hM.step hb3
  clear hb2 hb3 hB1 hB2
  cases r
  case false =>
    go_wp2_with fail
    go_ret
    exact ⟨rfl, hB3⟩
  case true =>
    have f1 : nameV (lets (s ++ ⟨#[46, 57]⟩)) = false := by rw [lets_append]; exact nameV_digit _ (p := [57]) (by decide) (by decide)
    have g1 : (s ++ ⟨#[46, 57]⟩ : ByteArray).size ≤ 4000000 := by rw [ByteArray.size_append]; have : (⟨#[46, 57]⟩ : ByteArray).size = 2 := rfl; omega
    have f2 : nameV (lets (⟨#[97, 46]⟩ ++ s)) = decide (s.size + 2 ≤ 20) := by rw [lets_append]; have := nameV_front _ hr.out; rw [lets_length] at this; exact this
    have g2 : (⟨#[97, 46]⟩ ++ s : ByteArray).size ≤ 4000000 := by rw [ByteArray.size_append]; have : (⟨#[97, 46]⟩ : ByteArray).size = 2 := rfl; omega
    replace f1 := Lib.hid f1
    replace g1 := Lib.hid g1
    replace f2 := Lib.hid f2
    replace g2 := Lib.hid g2
    go_wp2_with fail
    refine (nameValid_impl _ _ hM g1.out _ f1.out).mono ?_
    rintro e w4 ⟨rfl, hb4⟩
    have hB4 := bstep hB3 hb4
    replace hM := hM.step hb4
    clear hb4 hB3
    go_wp2_with fail
    refine (nameValid_impl _ _ hM g2.out _ f2.out).mono ?_
    rintro e w5 ⟨rfl, hb5⟩
    have hB5 := bstep hB4 hb5
    replace hM := hM.step hb5
    clear hb5 hB4
    have hd : decide ((s.size : Int) + 2 ≤ 20) = decide (s.size + 2 ≤ 20) := decide_eq_decide.2 (by omega)
    have hbb : (decide (s.size + 2 ≤ 20) == decide (s.size + 2 ≤ 20)) = true := by simp
    go_wp2_with fail
    go_ret
    exact ⟨rfl, hB5⟩

/-- A world for the witness: what the variables' door leaves, and the pinned table. -/
noncomputable def laidWorld_FnNameLast (os : Os) : World :=
  { World.doorLaid Tryd.prog 34 os with heap := (World.doorLaid Tryd.prog 34 os).heap.modify 1 fun
      | .cells _ t frozen => .cells (Go.Pinned.utf8FirstZ.map fun (z : Nat) => Value.int .u8 (z : Int)).toArray t frozen
      | o => o }
theorem laid_met_FnNameLast (os : Os) : laidMet Tryd.prog Rows.fnNameLastRow.laid ((laidWorld_FnNameLast os).forCall (fun _ _ => 0) ⟨#[], #[.slice none 0 0], []⟩).memory :=
  laidMet_of_run' 8 (by kernel_rfl) (by kernel_rfl)
theorem reads_FnNameLast (os : Os) {H : Type} (enc : TypeId × Value → H) : ∃ places, DataW.whole enc Tryd.prog ((laidWorld_FnNameLast os).forCall (fun _ _ => 0) ⟨#[], #[.slice none 0 0], []⟩).memory Tryd.f5.params.toList Rows.fnNameLastSpec.vars false (#[.slice none 0 0] : Array Value).toList 8 = some ([.nil], [], places) :=
  ⟨[], by kernel_rfl⟩
set_option maxRecDepth 100000 in
theorem lifted_FnNameLast (os : Os) (started : os.Started) (H : Type) (enc : TypeId × Value → H) (F : Stop.Interp) :
    ReturnsInHanded {} Tryd.checked os 5 .any ((OpenSpec.ofChange Rows.fnNameLastSpec).preRow enc Tryd.prog Tryd.f5 Rows.fnNameLastRow.domain false Rows.fnNameLastRow.laid) (((OpenSpec.ofChange Rows.fnNameLastSpec).at F).post enc Tryd.prog Tryd.f5 false true false false) := by
  obtain ⟨places, hx⟩ := reads_FnNameLast os enc
  refine returnsInHanded_of_row (C := Tryd.checked) (s := OpenSpec.ofChange Rows.fnNameLastSpec) row_own started (by kernel_rfl) Tryd.func5
    (witness_row_at (enc := enc) (C := Tryd.checked) false (laidWorld_FnNameLast os) #[.slice none 0 0] rfl (by kernel_rfl) (by kernel_rfl) (by kernel_rfl)
      (OpenSpec.preRow_of_cond 8 hx (by kernel_rfl) (fun k hk => by cases hk) (by kernel_rfl) (laid_met_FnNameLast os))) ?_
  intro W base args ds gs before hval0 hW _ _ _ hL hsh _
  have hval : ∀ (j : Nat) t v, Tryd.f5.params[j]? = some t → args[j]? = some v → Value.okWide Tryd.prog W .any base t v := hval0
  have hW' := hW
  obtain ⟨p, q, hA0, hV, rfl, hfz, hnd⟩ := hW
  have hA : DataW.TrodAll enc Tryd.prog W 0 (fun _ => true) true Tryd.f5.params.toList args.toList ds p := hA0
  rw [Tryd.params5] at hA hval
  obtain ⟨v0, vs0, d0, ds0, p0, q0, hargs, rfl, rfl, h0, r0⟩ := trodAll_cons hA
  obtain ⟨rfl, rfl, rfl⟩ := trodAll_nil r0
  obtain rfl : args = #[v0] := by cases args; simp_all
  obtain ⟨rfl, rfl⟩ := trodVars_none hV
  have k0 := h0
  have lt0 : ∀ x ∈ p0, x.block < W.heap.size := by obtain ⟨m, hm⟩ := k0; exact DataW.trod_lt m _ _ _ hm
  obtain ⟨a0, n0, c0, rfl⟩ := okWide_slice Tryd.underlying23 (hval 0 23 v0 rfl rfl)
  obtain ⟨z0, w0⟩ := rd_open Tryd.underlying23 Tryd.underlying5 (by kernel_rfl) h0
  clear hA0 hval0
  have hM : EnvM W := envM_shaped hsh
  clear hL hsh
  refine (walk_FnNameLast a0 n0 c0 z0 W w0 hM).mono fun e W' ⟨he, bel⟩ => ?_
  subst he
  exact ⟨_, rfl, _, _, _, [], _, [], hW', trodAll_mk1 (shut_bool Tryd.underlying4 _), (trodAll_cons_mk (Below.trod row_laidOut (by kernel_rfl) (of_decide_eq_true (by kernel_rfl)) k0 bel lt0) trodAll_mk0), rfl, bel.frame _, fun h => by cases h⟩

theorem over_FnNameLast : Rows.FnNameLastSaid :=
  OpenClaim.holds_of_cond 5 Tryd.f5 rfl rfl rfl rfl rfl rfl rfl ⟨rfl, rfl, rfl, rfl, rfl⟩ rfl rfl rfl rfl rfl (by kernel_rfl) Tryd.func5 (by kernel_rfl)
    (of_decide_eq_true (by kernel_rfl)) (by unfold Func.isWrapper; first | (rw [if_pos (by decide +kernel)]; kernel_rfl) | (rw [if_neg (by decide +kernel)]; exact ⟨rfl, rfl⟩))
    (fun os started H enc _ F => by rw [OpenClaim.pre_eq_preRow]; exact lifted_FnNameLast os started H enc F)
theorem plain_FnNameLast (f : FuncId) (fn : Func) (hf : Tryd.pinned.checked.prog.funcNamed "loop.example/proxyframes/laws.FnNameLast" = some f) (hfn : Tryd.pinned.checked.prog.funcs[f]? = some fn) :
    false = Tryd.pinned.checked.prog.looks [] ∧ ∀ (j : Nat) t, fn.params[j]? = some t → Tryd.pinned.checked.prog.wantsStandIn t = false := by
  obtain rfl : f = 5 := Option.some.inj ((show Tryd.prog.funcNamed "loop.example/proxyframes/laws.FnNameLast" = some 5 by kernel_rfl).symm.trans hf) |>.symm
  obtain rfl : fn = Tryd.f5 := (Option.some.inj (Tryd.func5.symm.trans hfn)).symm
  refine ⟨by kernel_rfl, fun j t ht => ?_⟩
  rw [Tryd.params5] at ht
  obtain rfl : t = 23 := by simpa using Array.mem_of_getElem? ht
  exact (show Tryd.prog.wantsStandIn 23 = false by kernel_rfl)

/-- The statement. -/
theorem fnNameLast_holds : Rows.FnNameLastCardSaid :=
  Claim7.holds_tied_plain_at .later [] _ _ _ _ over_FnNameLast (fun _ h => by cases h) (by kernel_rfl) (fun _ h => by cases h) fnNameLast_row_tie rfl ⟨rfl, rfl⟩ (by kernel_rfl) rfl plain_FnNameLast (by kernel_rfl)
#print axioms fnNameLast_holds
end Go.Proofs.YtfikfihcjddgnaaDoor
