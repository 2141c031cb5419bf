/- The statement FnQuadFrom: four bytes have their text. No condition. -/
import Derived.Test.YthgfldabeaepaaaDoorCard
import Derived.Test.YthgfldabeaepaaaDoorQFL
import Derived.Test.YthgfldabeaepaaaDoorDrawX
namespace Go.Proofs.YthgfldabeaepaaaDoor
open Go.ChangeShapes Go.WideShapes Go.ChangeAt Go.RowKit
open Go.ChangeMaps (open_string shut_string)
set_option maxRecDepth 20000 in
set_option maxHeartbeats 2000000 in
theorem walk_FnQuadFrom (a0 : Option Addr) (n0 c0 : Nat) (z0 : List Int) (w : World) (w0 : Rd w a0 n0 (z0.map (Value.int .u8)) ∧ n0 ≤ c0 ∧ c0 ≤ maxLen ∧ ∀ x ∈ z0, (Lit.int .u8 x).wf = true) (hV : Env3 w) :
    Calls Tryd.prog 9 #[.slice a0 n0 c0] w fun e w' => e = .returned (.bool true) ∧ Below w.heap.size w w' := by
  obtain ⟨hx, hc, _, hwf⟩ := w0
  have hv : ∀ z ∈ z0, 0 ≤ z ∧ z ≤ 255 := fun z hz => bounds_u8 (hwf z hz)
  clear hwf
  replace hv := Lib.hid hv
  have hm := hx.max
  by_cases hbig : n0 ≤ 1048576
  case neg =>
    go_enter Tryd.func9, Tryd.ntmps9
    go_wp2
    go_ret
    exact ⟨rfl, Below.refl _ _⟩
  go_enter Tryd.func9, Tryd.ntmps9
  go_wp2_with fail
  refine (drawQuadFrom_any _ _ _ _ _ hx hc hv.out).mono ?_
  rintro e w1 ⟨⟨s, rfl, hs⟩, hB1⟩
  replace hV := hV.step hB1
  obtain ⟨q, b, hf⟩ : ∃ q b, quadF (lets s) = (q, b) := ⟨_, _, rfl⟩
  replace hf := Lib.hid hf
  go_wp2_with fail
  refine (quadFrom_impl s _ (by omega) hV q b hf.out).mono ?_
  rintro e w2 ⟨A, n, c, rfl, ho2, hb2⟩
  have hB2 := bstep hB1 hb2
  replace hV := hV.step hb2
  have hr2 := Rd.own ho2
  clear hb2 hB1 ho2
  go_wp2_with fail
  refine (quadFrom_spec s _ (by omega) q b hf.out).mono ?_
  rintro e w3 ⟨A3, n3, c3, rfl, ho3, hb3⟩
  have hB3 := bstep hB2 hb3
  replace hV := hV.step hb3
  have hr3 := Rd.own ho3
  replace hr2 := hr2.below hb3
  clear ho3 hb3 hB2
  have hbb : (b != b) = false := by simp
  go_wp2_with fail
  refine (sameBytes_any _ _ _ _ _ _ _ _ _ hr2 hr3).mono ?_
  rintro e w4 ⟨rfl, hb4⟩
  rw [decide_eq_true rfl]
  have hB4 := bstep hB3 hb4
  replace hV := hV.step hb4
  replace hr2 := hr2.below hb4
  replace hr3 := hr3.below hb4
  clear hb4 hB3
  cases b
  case false =>
    go_wp2_with fail
    refine (sameBytes_any _ _ _ _ _ _ _ _ _ hr2 hr3).mono ?_
    rintro e w5 ⟨rfl, hb5⟩
    rw [decide_eq_true rfl]
    go_wp2_with fail
    go_ret
    exact ⟨rfl, bstep hB4 hb5⟩
  case true =>
    obtain ⟨hq, hqt⟩ := quadF_true hf.out
    have hs1 : txt (quadS q) = s := by
      have e1 : quadS q = quadT q := if_pos hq
      exact (congrArg txt (e1.trans hqt)).trans (txt_lets s)
    replace hq := Lib.hid hq
    replace hqt := Lib.hid hqt
    clear hr3
    go_wp2_with fail
    refine (quadValid_impl _ _ _ _ _ hr2 _ hq.out).mono ?_
    rintro e w5 ⟨rfl, rfl⟩
    go_wp2_with fail
    refine (quadText_impl _ _ _ _ _ hr2 hV.2.1).mono ?_
    rw [hs1]
    rintro e w6 ⟨rfl, hb6⟩
    have hB6 := bstep hB4 hb6
    go_wp2_with fail
    go_ret
    exact ⟨rfl, hB6⟩

/-- A world for the witness: what the variables' door leaves, and the pinned table. -/
noncomputable def laidWorld_FnQuadFrom (os : Os) : World :=
  { World.doorLaid Tryd.prog 72 os with heap := (World.doorLaid Tryd.prog 72 os).heap.modify 4 fun
      | .cells _ t frozen => .cells (Go.Pinned.utf8FirstZ.map fun (z : Nat) => Value.int .u8 (z : Int)).toArray t frozen
      | o => o }
theorem laid_met_FnQuadFrom (os : Os) : laidMet Tryd.prog Rows.fnQuadFromRow.laid ((laidWorld_FnQuadFrom os).forCall (fun _ _ => 0) ⟨#[], #[.slice none 0 0], []⟩).memory :=
  laidMet_of_run' 8 (by kernel_rfl) (by kernel_rfl)
theorem reads_FnQuadFrom (os : Os) {H : Type} (enc : TypeId × Value → H) : ∃ places, DataW.whole enc Tryd.prog ((laidWorld_FnQuadFrom os).forCall (fun _ _ => 0) ⟨#[], #[.slice none 0 0], []⟩).memory Tryd.f9.params.toList Rows.fnQuadFromSpec.vars false (#[.slice none 0 0] : Array Value).toList 8 = some ([.nil], [], places) :=
  ⟨[], by kernel_rfl⟩
set_option maxRecDepth 100000 in
theorem lifted_FnQuadFrom (os : Os) (started : os.Started) (H : Type) (enc : TypeId × Value → H) (F : Stop.Interp) :
    ReturnsInHanded {} Tryd.checked os 9 .any ((OpenSpec.ofChange Rows.fnQuadFromSpec).preRow enc Tryd.prog Tryd.f9 Rows.fnQuadFromRow.domain false Rows.fnQuadFromRow.laid) (((OpenSpec.ofChange Rows.fnQuadFromSpec).at F).post enc Tryd.prog Tryd.f9 false true false false) := by
  obtain ⟨places, hx⟩ := reads_FnQuadFrom os enc
  refine returnsInHanded_of_row (C := Tryd.checked) (s := OpenSpec.ofChange Rows.fnQuadFromSpec) row_own started (by kernel_rfl) Tryd.func9
    (witness_row_at (enc := enc) (C := Tryd.checked) false (laidWorld_FnQuadFrom os) #[.slice none 0 0] rfl (by kernel_rfl) (by kernel_rfl) (by kernel_rfl)
      (OpenSpec.preRow_of_cond 8 hx (by kernel_rfl) (fun k hk => by cases hk) (by kernel_rfl) (laid_met_FnQuadFrom os))) ?_
  intro W base args ds gs before hval0 hW _ _ _ hL hsh _
  have hval : ∀ (j : Nat) t v, Tryd.f9.params[j]? = some t → args[j]? = some v → Value.okWide Tryd.prog W .any base t v := hval0
  have hW' := hW
  obtain ⟨p, q, hA0, hV, rfl, hfz, hnd⟩ := hW
  have hA : DataW.TrodAll enc Tryd.prog W 0 (fun _ => true) true Tryd.f9.params.toList args.toList ds p := hA0
  rw [Tryd.params9] at hA hval
  obtain ⟨v0, vs0, d0, ds0, p0, q0, hargs, rfl, rfl, h0, r0⟩ := trodAll_cons hA
  obtain ⟨rfl, rfl, rfl⟩ := trodAll_nil r0
  obtain rfl : args = #[v0] := by cases args; simp_all
  obtain ⟨rfl, rfl⟩ := trodVars_none hV
  have k0 := h0
  have lt0 : ∀ x ∈ p0, x.block < W.heap.size := by obtain ⟨m, hm⟩ := k0; exact DataW.trod_lt m _ _ _ hm
  obtain ⟨a0, n0, c0, rfl⟩ := okWide_slice Tryd.underlying27 (hval 0 27 v0 rfl rfl)
  obtain ⟨z0, w0⟩ := rd_open Tryd.underlying27 Tryd.underlying5 (by kernel_rfl) h0
  clear hA0 hval0
  have hM : EnvM W := envM_shaped hsh
  have hP : EnvP W := envP_laid (hL.filter fun x => x.1 == "internal/strconv.uint64pow10")
  have hE : EnvE W := envE_laid (hL.filter fun x => x.1 == "strconv.ErrSyntax") (hL.filter fun x => x.1 == "strconv.ErrRange")
  clear hL hsh
  refine (walk_FnQuadFrom a0 n0 c0 z0 W w0 ⟨hM, hP, hE⟩).mono fun e W' ⟨he, bel⟩ => ?_
  subst he
  exact ⟨_, rfl, _, _, _, [], _, [], hW', trodAll_mk1 (shut_bool Tryd.underlying4 _), (trodAll_cons_mk (Below.trod row_laidOut (by kernel_rfl) (of_decide_eq_true (by kernel_rfl)) k0 bel lt0) trodAll_mk0), rfl, bel.frame _, fun h => by cases h⟩

theorem over_FnQuadFrom : Rows.FnQuadFromSaid :=
  OpenClaim.holds_of_cond 9 Tryd.f9 rfl rfl rfl rfl rfl rfl rfl ⟨rfl, rfl, rfl, rfl, rfl⟩ rfl rfl rfl rfl rfl (by kernel_rfl) Tryd.func9 (by kernel_rfl)
    (of_decide_eq_true (by kernel_rfl)) (by unfold Func.isWrapper; first | (rw [if_pos (by decide +kernel)]; kernel_rfl) | (rw [if_neg (by decide +kernel)]; exact ⟨rfl, rfl⟩))
    (fun os started H enc _ F => by rw [OpenClaim.pre_eq_preRow]; exact lifted_FnQuadFrom os started H enc F)
theorem plain_FnQuadFrom (f : FuncId) (fn : Func) (hf : Tryd.pinned.checked.prog.funcNamed "loop.example/proxyframes/laws.FnQuadFrom" = some f) (hfn : Tryd.pinned.checked.prog.funcs[f]? = some fn) :
    true = Tryd.pinned.checked.prog.looks [] ∧ ∀ (j : Nat) t, fn.params[j]? = some t → Tryd.pinned.checked.prog.wantsStandIn t = false := by
  obtain rfl : f = 9 := Option.some.inj ((show Tryd.prog.funcNamed "loop.example/proxyframes/laws.FnQuadFrom" = some 9 by kernel_rfl).symm.trans hf) |>.symm
  obtain rfl : fn = Tryd.f9 := (Option.some.inj (Tryd.func9.symm.trans hfn)).symm
  refine ⟨by kernel_rfl, fun j t ht => ?_⟩
  rw [Tryd.params9] at ht
  obtain rfl : t = 27 := by simpa using Array.mem_of_getElem? ht
  exact (show Tryd.prog.wantsStandIn 27 = false by kernel_rfl)

/-- The statement. -/
theorem fnQuadFrom_holds : Rows.FnQuadFromCardSaid :=
  Claim7.holds_tied_plain_at .later [] _ _ _ _ over_FnQuadFrom (fun _ h => by cases h) (by kernel_rfl) (fun _ h => by cases h) fnQuadFrom_row_tie rfl ⟨rfl, rfl⟩ (by kernel_rfl) rfl plain_FnQuadFrom (by kernel_rfl)
#print axioms fnQuadFrom_holds
end Go.Proofs.YthgfldabeaepaaaDoor
