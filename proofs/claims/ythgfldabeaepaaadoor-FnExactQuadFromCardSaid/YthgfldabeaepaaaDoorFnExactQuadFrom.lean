/- The statement FnExactQuadFrom: the program's QuadFrom returns what the reference's returns, for every text. No condition. -/
import Derived.Test.YthgfldabeaepaaaDoorCard
import Derived.Test.YthgfldabeaepaaaDoorQFL
namespace Go.Proofs.YthgfldabeaepaaaDoor
open Go.ChangeShapes Go.WideShapes Go.ChangeAt Go.RowKit
open Go.ChangeMaps (open_string shut_string)

set_option maxRecDepth 20000 in
set_option maxHeartbeats 1000000 in
theorem walk_FnExactQuadFrom (s : ByteArray) (w : World) (hs : s.size ≤ maxLen) (hV : Env3 w) : Calls Tryd.prog 6 #[.string s] w fun e w' => e = .returned (.bool true) ∧ Below w.heap.size w w' := by
  unfold maxLen at hs
  have hs' : s.size ≤ 9223372036854775807 := by omega
  obtain ⟨zs, b, hf⟩ : ∃ zs b, quadF (lets s) = (zs, b) := ⟨_, _, rfl⟩
  have hzl : zs.length ≤ 1000000 := quadF_length hf
  replace hf := Lib.hid hf
  by_cases hbig : s.size ≤ 1048576
  · go_enter Tryd.func6, Tryd.ntmps6
    go_wp2_with fail
    refine (quadFrom_spec s _ (by omega) zs b hf.out).mono ?_
    rintro e w1 ⟨A, n, c, rfl, ho1, hB1⟩
    have hr1 := Rd.own ho1
    go_wp2_with fail
    have hV1 := hV.step hB1
    refine (quadFrom_impl s _ (by omega) hV1 zs b hf.out).mono ?_
    rintro e w2 ⟨A2, n2, c2, rfl, ho2, hb2⟩
    have hBase := hB1.size
    have hbbf : (b != b) = false := by simp
    have hV2 := hV1.step hb2
    have hBase1 : w1.heap.size ≤ w1.heap.size := Nat.le_refl _
    have hB2 := bstep hB1 hb2
    have hr2 := Rd.own ho2
    have hr1' := hr1.below hb2
    go_wp2_with fail
    refine (eqIntS_any _ _ _ _ _ _ _ _ _ hr2 hr1').mono ?_
    rintro e w3 ⟨rfl, hb3⟩
    rw [decide_eq_true rfl]
    have hB3 := bstep hB2 hb3
    have hV3 := hV2.step hb3
    have hn2 : n2 ≤ 2000000 := by have := hr2.ilen; omega
    replace hr1' := hr1'.below hb3
    replace ho2 := own_below ho2 hb3
    go_wp2_with fail
    refine (markIntS_any _ _ _ _ _ _ _ ho2 (by omega)).mono ?_
    rintro e w4 ⟨rfl, ho4, hg4⟩
    have hB4 := bown hB3 ho2 hBase hg4
    have hV4 := hV3.far hV hB3.size hBase ho2 hg4
    replace hr1' := hr1'.far hr1 hBase1 ho2 hg4
    have hr4 := Rd.own ho4
    go_wp2_with fail
    refine (heldIntS_any _ _ _ _ _ hr4 (by omega)).mono ?_
    rintro e w5 ⟨rfl, hb5⟩
    have hB5 := bstep hB4 hb5
    have hV5 := hV4.step hb5
    replace hr1' := hr1'.below hb5
    replace hr4 := hr4.below hb5
    go_wp2_with fail
    refine (quadFrom_impl s _ (by omega) hV5 zs b hf.out).mono ?_
    rintro e w6 ⟨A6, n6, c6, rfl, ho6, hb6⟩
    have hB6 := bstep hB5 hb6
    have hr6 := Rd.own ho6
    replace hr1' := hr1'.below hb6
    replace hr4 := hr4.below hb6
    go_wp2_with fail
    refine (eqIntS_any _ _ _ _ _ _ _ _ _ hr6 hr1').mono ?_
    rintro e w7 ⟨rfl, hb7⟩
    rw [decide_eq_true rfl]
    have hB7 := bstep hB6 hb7
    replace hr4 := hr4.below hb7
    go_wp2_with fail
    refine (heldIntS_any _ _ _ _ _ hr4 (by omega)).mono ?_
    rintro e w8 ⟨rfl, hb8⟩
    have hB8 := bstep hB7 hb8
    go_wp2_with fail
    go_ret
    exact ⟨rfl, hB8⟩
  · go_enter Tryd.func6, Tryd.ntmps6
    go_wp2
    go_ret
    exact ⟨rfl, Below.refl _ _⟩

/-- A world for the witness: what the variables' door leaves, and the pinned table. -/
noncomputable def laidWorld_FnExactQuadFrom (os : Os) : World :=
  { World.doorLaid Tryd.prog 72 os with heap := (World.doorLaid Tryd.prog 72 os).heap.modify 4 fun
      | .cells _ t frozen => .cells (Go.Pinned.utf8FirstZ.map fun (z : Nat) => Value.int .u8 (z : Int)).toArray t frozen
      | o => o }
theorem laid_met_FnExactQuadFrom (os : Os) : laidMet Tryd.prog Rows.fnExactQuadFromRow.laid ((laidWorld_FnExactQuadFrom os).forCall (fun _ _ => 0) ⟨#[], #[.string ByteArray.empty], []⟩).memory :=
  laidMet_of_run' 8 (by kernel_rfl) (by kernel_rfl)
theorem reads_FnExactQuadFrom (os : Os) {H : Type} (enc : TypeId × Value → H) : ∃ places, DataW.whole enc Tryd.prog ((laidWorld_FnExactQuadFrom os).forCall (fun _ _ => 0) ⟨#[], #[.string ByteArray.empty], []⟩).memory Tryd.f6.params.toList Rows.fnExactQuadFromSpec.vars false (#[.string ByteArray.empty] : Array Value).toList 8 = some ([.lit (.string [])], [], places) :=
  ⟨[], by kernel_rfl⟩
set_option maxRecDepth 100000 in
theorem lifted_FnExactQuadFrom (os : Os) (started : os.Started) (H : Type) (enc : TypeId × Value → H) (F : Stop.Interp) :
    ReturnsInHanded {} Tryd.checked os 6 .any ((OpenSpec.ofChange Rows.fnExactQuadFromSpec).preRow enc Tryd.prog Tryd.f6 Rows.fnExactQuadFromRow.domain false Rows.fnExactQuadFromRow.laid) (((OpenSpec.ofChange Rows.fnExactQuadFromSpec).at F).post enc Tryd.prog Tryd.f6 false true false false) := by
  obtain ⟨places, hx⟩ := reads_FnExactQuadFrom os enc
  refine returnsInHanded_of_row (C := Tryd.checked) (s := OpenSpec.ofChange Rows.fnExactQuadFromSpec) row_own started (by kernel_rfl) Tryd.func6
    (witness_row_at (enc := enc) (C := Tryd.checked) false (laidWorld_FnExactQuadFrom os) #[.string ByteArray.empty] rfl (by kernel_rfl) (by kernel_rfl) (by kernel_rfl)
      (OpenSpec.preRow_of_cond 8 hx (by kernel_rfl) (fun k hk => by cases hk) (by kernel_rfl) (laid_met_FnExactQuadFrom os))) ?_
  intro W base args ds gs before hval0 hW _ _ _ hL hsh _
  have hval : ∀ (j : Nat) t v, Tryd.f6.params[j]? = some t → args[j]? = some v → Value.okWide Tryd.prog W .any base t v := hval0
  have hW' := hW
  obtain ⟨p, q, hA0, hV, rfl, hfz, hnd⟩ := hW
  have hA : DataW.TrodAll enc Tryd.prog W 0 (fun _ => true) true Tryd.f6.params.toList args.toList ds p := hA0
  rw [Tryd.params6] at hA hval
  obtain ⟨v0, vs0, d0, ds0, p0, q0, hargs, rfl, rfl, h0, r0⟩ := trodAll_cons hA
  obtain ⟨rfl, rfl, rfl⟩ := trodAll_nil r0
  obtain rfl : args = #[v0] := by cases args; simp_all
  obtain ⟨rfl, rfl⟩ := trodVars_none hV
  obtain ⟨a0, rfl, rfl, rfl, w0⟩ := open_string Tryd.underlying9 (hval 0 9 v0 rfl rfl) h0
  clear hA0 hval0
  have hM : EnvM W := envM_shaped hsh
  have hP : EnvP W := envP_laid (hL.filter fun x => x.1 == "internal/strconv.uint64pow10")
  have hE : EnvE W := envE_laid (hL.filter fun x => x.1 == "strconv.ErrSyntax") (hL.filter fun x => x.1 == "strconv.ErrRange")
  clear hL hsh
  refine (walk_FnExactQuadFrom a0 W w0 ⟨hM, hP, hE⟩).mono fun e W' ⟨he, bel⟩ => ?_
  subst he
  exact ⟨_, rfl, _, _, _, [], _, [], hW', trodAll_mk1 (shut_bool Tryd.underlying4 _), (trodAll_cons_mk (shut_string Tryd.underlying9 w0) trodAll_mk0), rfl, bel.frame _, fun h => by cases h⟩

theorem over_FnExactQuadFrom : Rows.FnExactQuadFromSaid :=
  OpenClaim.holds_of_cond 6 Tryd.f6 rfl rfl rfl rfl rfl rfl rfl ⟨rfl, rfl, rfl, rfl, rfl⟩ rfl rfl rfl rfl rfl (by kernel_rfl) Tryd.func6 (by kernel_rfl)
    (of_decide_eq_true (by kernel_rfl)) (by unfold Func.isWrapper; first | (rw [if_pos (by decide +kernel)]; kernel_rfl) | (rw [if_neg (by decide +kernel)]; exact ⟨rfl, rfl⟩))
    (fun os started H enc _ F => by rw [OpenClaim.pre_eq_preRow]; exact lifted_FnExactQuadFrom os started H enc F)
theorem plain_FnExactQuadFrom (f : FuncId) (fn : Func) (hf : Tryd.pinned.checked.prog.funcNamed "loop.example/proxyframes/laws.FnExactQuadFrom" = some f) (hfn : Tryd.pinned.checked.prog.funcs[f]? = some fn) :
    true = Tryd.pinned.checked.prog.looks [] ∧ ∀ (j : Nat) t, fn.params[j]? = some t → Tryd.pinned.checked.prog.wantsStandIn t = false := by
  obtain rfl : f = 6 := Option.some.inj ((show Tryd.prog.funcNamed "loop.example/proxyframes/laws.FnExactQuadFrom" = some 6 by kernel_rfl).symm.trans hf) |>.symm
  obtain rfl : fn = Tryd.f6 := (Option.some.inj (Tryd.func6.symm.trans hfn)).symm
  refine ⟨by kernel_rfl, fun j t ht => ?_⟩
  rw [Tryd.params6] at ht
  obtain rfl : t = 9 := by simpa using Array.mem_of_getElem? ht
  exact (show Tryd.prog.wantsStandIn 9 = false by kernel_rfl)

/-- The statement. -/
theorem fnExactQuadFrom_holds : Rows.FnExactQuadFromCardSaid :=
  Claim7.holds_tied_plain_at .later [] _ _ _ _ over_FnExactQuadFrom (fun _ h => by cases h) (by kernel_rfl) (fun _ h => by cases h) fnExactQuadFrom_row_tie rfl ⟨rfl, rfl⟩ (by kernel_rfl) rfl plain_FnExactQuadFrom (by kernel_rfl)
#print axioms fnExactQuadFrom_holds
end Go.Proofs.YthgfldabeaepaaaDoor
