/- The statement FnExactQuadText: the program's QuadText answers what the reference's answers, for every slice. No condition. -/
import Derived.Test.YthgfldabeaepaaaDoorCard
import Derived.Test.YthgfldabeaepaaaDoorQTI
namespace Go.Proofs.YthgfldabeaepaaaDoor
open Go.ChangeShapes Go.WideShapes Go.ChangeAt Go.RowKit
open Go.ChangeMaps (open_string shut_string)

set_option maxRecDepth 20000 in
set_option maxHeartbeats 2000000 in
theorem walk_FnExactQuadText (a0 : Option Addr) (n0 c0 : Nat) (z0 : List Int) (w : World) (w0 : Rd w a0 n0 (ints z0) ∧ n0 ≤ c0 ∧ c0 ≤ maxLen ∧ ∀ x ∈ z0, (Lit.int .i64 x).wf = true) (hP : EnvP w) : Calls Tryd.prog 3 #[.slice a0 n0 c0] w fun e w' => e = .returned (.bool true) ∧ Below w.heap.size w w' := by
  have hx0 := w0.1
  clear w0
  have hm0 := hx0.max
  by_cases hbig0 : n0 ≤ 1048576
  case neg =>
    go_enter Tryd.func3, Tryd.ntmps3
    go_wp2
    go_ret
    exact ⟨rfl, Below.refl _ _⟩
  go_enter Tryd.func3, Tryd.ntmps3
  have hB0 := Below.refl w.heap.size w
  go_wp2_with fail
  refine (toIntS_any _ _ _ _ _ hx0 hbig0).mono ?_
  rintro e w1' ⟨As0, Cs0, rfl, hos0, hbs0⟩
  have hB1 := bstep hB0 hbs0
  replace hx0 := hx0.below hbs0
  have hrs0 := Rd.own hos0
  clear hos0
  go_wp2_with fail
  refine (quadText_spec _ _ _ _ _ hrs0).mono ?_
  rintro e w2' ⟨rfl, hbS⟩
  generalize hqs : txt (quadS z0) = T
  have hB2 := bstep hB1 hbS
  replace hx0 := hx0.below hbS
  replace hrs0 := hrs0.below hbS
  go_wp2_with fail
  refine (toIntS_any _ _ _ _ _ hx0 hbig0).mono ?_
  rintro e w3' ⟨Ai0, Ci0, rfl, hoi0, hbi0⟩
  have hB3 := bstep hB2 hbi0
  replace hx0 := hx0.below hbi0
  replace hrs0 := hrs0.below hbi0
  have hri0 := Rd.own hoi0
  clear hoi0
  go_wp2_with fail
  refine (quadText_impl _ _ _ _ _ hri0 (((hP.step hbs0).step hbS).step hbi0)).mono ?_
  rw [hqs]
  rintro e w4' ⟨rfl, hbI⟩
  have hB4 := bstep hB3 hbI
  replace hx0 := hx0.below hbI
  replace hrs0 := hrs0.below hbI
  replace hri0 := hri0.below hbI
  go_wp2_with fail
  refine (toIntS_any _ _ _ _ _ hx0 hbig0).mono ?_
  rintro e w5' ⟨Ae0, Ce0, rfl, hoe0, hbe0⟩
  have hB5 := bstep hB4 hbe0
  replace hx0 := hx0.below hbe0
  replace hrs0 := hrs0.below hbe0
  replace hri0 := hri0.below hbe0
  have hre0 := Rd.own hoe0
  clear hoe0
  go_wp2_with fail
  refine (eqIntS_any _ _ _ _ _ _ _ _ _ hri0 hre0).mono ?_
  rintro e w6' ⟨rfl, hb0e⟩
  rw [decide_eq_true rfl]
  have hB6 := bstep hB5 hb0e
  replace hx0 := hx0.below hb0e
  replace hrs0 := hrs0.below hb0e
  replace hri0 := hri0.below hb0e
  replace hre0 := hre0.below hb0e
  go_wp2_with fail
  go_ret
  exact ⟨rfl, hB6⟩

/-- A world for the witness: what the variables' door leaves. -/
noncomputable def laidWorld_FnExactQuadText (os : Os) : World := World.doorLaid Tryd.prog 72 os
theorem laid_met_FnExactQuadText (os : Os) : laidMet Tryd.prog Rows.fnExactQuadTextRow.laid ((laidWorld_FnExactQuadText os).forCall (fun _ _ => 0) ⟨#[], #[.slice none 0 0], []⟩).memory :=
  laidMet_of_run' 8 (by kernel_rfl) (by kernel_rfl)
theorem reads_FnExactQuadText (os : Os) {H : Type} (enc : TypeId × Value → H) : ∃ places, DataW.whole enc Tryd.prog ((laidWorld_FnExactQuadText os).forCall (fun _ _ => 0) ⟨#[], #[.slice none 0 0], []⟩).memory Tryd.f3.params.toList Rows.fnExactQuadTextSpec.vars false (#[.slice none 0 0] : Array Value).toList 8 = some ([.nil], [], places) :=
  ⟨[], by kernel_rfl⟩
set_option maxRecDepth 100000 in
theorem lifted_FnExactQuadText (os : Os) (started : os.Started) (H : Type) (enc : TypeId × Value → H) (F : Stop.Interp) :
    ReturnsInHanded {} Tryd.checked os 3 .any ((OpenSpec.ofChange Rows.fnExactQuadTextSpec).preRow enc Tryd.prog Tryd.f3 Rows.fnExactQuadTextRow.domain false Rows.fnExactQuadTextRow.laid) (((OpenSpec.ofChange Rows.fnExactQuadTextSpec).at F).post enc Tryd.prog Tryd.f3 false true false false) := by
  obtain ⟨places, hx⟩ := reads_FnExactQuadText os enc
  refine returnsInHanded_of_row (C := Tryd.checked) (s := OpenSpec.ofChange Rows.fnExactQuadTextSpec) row_own started (by kernel_rfl) Tryd.func3
    (witness_row_at (enc := enc) (C := Tryd.checked) false (laidWorld_FnExactQuadText os) #[.slice none 0 0] rfl (by kernel_rfl) (by kernel_rfl) (by kernel_rfl)
      (OpenSpec.preRow_of_cond 8 hx (by kernel_rfl) (fun k hk => by cases hk) (by kernel_rfl) (laid_met_FnExactQuadText os))) ?_
  intro W base args ds gs before hval0 hW _ _ _ hL hsh _
  have hval : ∀ (j : Nat) t v, Tryd.f3.params[j]? = some t → args[j]? = some v → Value.okWide Tryd.prog W .any base t v := hval0
  have hW' := hW
  obtain ⟨p, q, hA0, hV, rfl, hfz, hnd⟩ := hW
  have hA : DataW.TrodAll enc Tryd.prog W 0 (fun _ => true) true Tryd.f3.params.toList args.toList ds p := hA0
  rw [Tryd.params3] at hA hval
  obtain ⟨v0, vs0, d0, ds0, p0, q0, hargs, rfl, rfl, h0, r0⟩ := trodAll_cons hA
  obtain ⟨rfl, rfl, rfl⟩ := trodAll_nil r0
  obtain rfl : args = #[v0] := by cases args; simp_all
  obtain ⟨rfl, rfl⟩ := trodVars_none hV
  have k0 := h0
  have lt0 : ∀ x ∈ p0, x.block < W.heap.size := by obtain ⟨m, hm⟩ := k0; exact DataW.trod_lt m _ _ _ hm
  obtain ⟨a0, n0, c0, rfl⟩ := okWide_slice Tryd.underlying22 (hval 0 22 v0 rfl rfl)
  obtain ⟨z0, w0⟩ := rd_open Tryd.underlying22 Tryd.underlying3 (by kernel_rfl) h0
  clear hA0 hval0
  have hP : EnvP W := envP_laid (hL.filter fun x => x.1 == "internal/strconv.uint64pow10")
  clear hL hsh
  refine (walk_FnExactQuadText a0 n0 c0 z0 W w0 hP).mono fun e W' ⟨he, bel⟩ => ?_
  subst he
  exact ⟨_, rfl, _, _, _, [], _, [], hW', trodAll_mk1 (shut_bool Tryd.underlying4 _), (trodAll_cons_mk (Below.trod row_laidOut (by kernel_rfl) (of_decide_eq_true (by kernel_rfl)) k0 bel lt0) trodAll_mk0), rfl, bel.frame _, fun h => by cases h⟩

theorem over_FnExactQuadText : Rows.FnExactQuadTextSaid :=
  OpenClaim.holds_of_cond 3 Tryd.f3 rfl rfl rfl rfl rfl rfl rfl ⟨rfl, rfl, rfl, rfl, rfl⟩ rfl rfl rfl rfl rfl (by kernel_rfl) Tryd.func3 (by kernel_rfl)
    (of_decide_eq_true (by kernel_rfl)) (by unfold Func.isWrapper; first | (rw [if_pos (by decide +kernel)]; kernel_rfl) | (rw [if_neg (by decide +kernel)]; exact ⟨rfl, rfl⟩))
    (fun os started H enc _ F => by rw [OpenClaim.pre_eq_preRow]; exact lifted_FnExactQuadText os started H enc F)
theorem plain_FnExactQuadText (f : FuncId) (fn : Func) (hf : Tryd.pinned.checked.prog.funcNamed "loop.example/proxyframes/laws.FnExactQuadText" = some f) (hfn : Tryd.pinned.checked.prog.funcs[f]? = some fn) :
    true = Tryd.pinned.checked.prog.looks [] ∧ ∀ (j : Nat) t, fn.params[j]? = some t → Tryd.pinned.checked.prog.wantsStandIn t = false := by
  obtain rfl : f = 3 := Option.some.inj ((show Tryd.prog.funcNamed "loop.example/proxyframes/laws.FnExactQuadText" = some 3 by kernel_rfl).symm.trans hf) |>.symm
  obtain rfl : fn = Tryd.f3 := (Option.some.inj (Tryd.func3.symm.trans hfn)).symm
  refine ⟨by kernel_rfl, fun j t ht => ?_⟩
  rw [Tryd.params3] at ht
  obtain rfl : t = 22 := by simpa using Array.mem_of_getElem? ht
  exact (show Tryd.prog.wantsStandIn 22 = false by kernel_rfl)

/-- The statement. -/
theorem fnExactQuadText_holds : Rows.FnExactQuadTextCardSaid :=
  Claim7.holds_tied_plain_at .later [] _ _ _ _ over_FnExactQuadText (fun _ h => by cases h) (by kernel_rfl) (fun _ h => by cases h) fnExactQuadText_row_tie rfl ⟨rfl, rfl⟩ (by kernel_rfl) rfl plain_FnExactQuadText (by kernel_rfl)
#print axioms fnExactQuadText_holds
end Go.Proofs.YthgfldabeaepaaaDoor
