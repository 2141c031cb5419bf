/- The statement FnExactAddressFrom: the program's AddressFrom answers what the reference's answers, for every text. No condition. -/
import Derived.Test.YthgfldabeaepaaaDoorCard
import Derived.Test.YthgfldabeaepaaaDoorAdI
import Derived.Test.YthgfldabeaepaaaDoorAdF
import Derived.Test.YthgfldabeaepaaaDoorMk
namespace Go.Proofs.YthgfldabeaepaaaDoor
open Go.ChangeShapes Go.WideShapes Go.ChangeAt Go.RowKit
open Go.ChangeMaps (open_string shut_string)
set_option maxRecDepth 20000 in
set_option maxHeartbeats 8000000 in
theorem walk_FnExactAddressFrom (s : ByteArray) (w : World) (ws : s.size ≤ maxLen) (hV : Env3 w) : Calls Tryd.prog 13 #[.string s] w fun e w' => e = .returned (.bool true) ∧ Below w.heap.size w w' := by
  unfold maxLen at ws
  by_cases hbig : s.size ≤ 1048576
  case neg =>
    go_enter Tryd.func13, Tryd.ntmps13
    go_wp2
    go_ret
    exact ⟨rfl, Below.refl _ _⟩
  obtain ⟨a, b, hf⟩ : ∃ a b, adF (lets s) = (a, b) := ⟨_, _, rfl⟩
  replace hf := Lib.hid hf
  have hbb : (b != b) = false := by simp
  go_enter Tryd.func13, Tryd.ntmps13
  go_wp2_with fail
  refine (addressFrom_spec s _ (by omega) a b hf.out).mono ?_
  rintro e w2 ⟨AW, nW, cW, rfl, hnW, hsW, oW, hB2⟩
  have hs2 := hB2.size
  have hV0 := hV
  replace hV := hV.step hB2
  have hrW := Rd.own oW
  have hrW0 := hrW
  clear oW
  go_wp2_with fail
  refine calls_gen fun wB hwB => ?_
  have kW : wB.heap[w2.heap.size]? = some (.cells #[.int .i64 a.kind, .slice AW nW cW, .string a.name, .int .i64 a.port] 39 (0, 0)) := by
    rw [hwB]
    exact heap_alloc_new w2 _
  have hb3 : Below w2.heap.size w2 wB := by rw [hwB]; go_grown
  have hsB : wB.heap.size = w2.heap.size + 1 := by rw [hwB]; simp
  clear hwB
  have hBB := bstep hB2 hb3
  replace hV := hV.step hb3
  replace hrW := hrW.below hb3
  clear hb3 hB2
  refine (addressFrom_impl s _ (by omega) hV a b hf.out).mono ?_
  rintro e w4 ⟨AG, nG, cG, rfl, hnG, hsG, oG, hb5⟩
  have oG0 := oG
  have hB4 := bstep hBB hb5
  have hs4 := hb5.size
  replace hV := hV.step hb5
  replace hrW := hrW.below hb5
  replace kW := (hb5.block _ (by omega)).trans kW
  clear hb5 hBB
  have hlW : w2.heap.size < w4.heap.size := by omega
  obtain ⟨c0, c1, c2, c3⟩ := box_cells kW
  replace kW := Lib.hid kW
  go_wp2_with fail
  replace kW := kW.out
  refine calls_gen fun wC hwC => ?_
  have kG : wC.heap[w4.heap.size]? = some (.cells #[.int .i64 a.kind, .slice AG nG cG, .string a.name, .int .i64 a.port] 39 (0, 0)) := by
    rw [hwC]
    exact heap_alloc_new w4 _
  have hb6 : Below w4.heap.size w4 wC := by rw [hwC]; go_grown
  have hsC : wC.heap.size = w4.heap.size + 1 := by rw [hwC]; simp
  clear hwC
  have hBC := bstep hB4 hb6
  replace hV := hV.step hb6
  replace hrW := hrW.below hb6
  replace kW := (hb6.block _ (by omega)).trans kW
  replace oG := own_below oG hb6
  clear hb6 hB4 c0 c1 c2 c3
  refine (eqAddress_same a AG nG cG AW nW cW _ (Rd.own oG) hrW).mono ?_
  rintro e w9 ⟨rfl, he9⟩
  have hB9 := bstep hBC he9
  have hs9 := he9.size
  replace hV := hV.step he9
  replace hrW := hrW.below he9
  replace kW := (he9.block _ (by omega)).trans kW
  replace oG := own_below oG he9
  replace kG := (he9.block _ (by omega)).trans kG
  clear he9 hBC
  obtain ⟨d0, d1, d2, d3⟩ := box_cells kG
  replace kW := Lib.hid kW
  replace kG := Lib.hid kG
  go_wp2_with fail
  replace kW := kW.out
  replace kG := kG.out
  clear d0 d1 d2 d3
  refine (markAddress_any _ a AG nG cG 1 _ oG (by omega)).mono ?_
  rintro e w10 ⟨rfl, oH, hg10⟩
  have hB10 := bown hB9 oG (by omega) hg10
  have hs10 := hg10.size
  have hfG : ∀ k, Value.ownBlock (.slice AG nG cG) = some k → wB.heap.size ≤ k ∧ k < w4.heap.size := oG0.lt
  replace kW := (hg10.block _ (by omega) (fun h => by have := hfG _ h.symm; omega)).trans kW
  replace kG := (hg10.block _ (by omega) (fun h => by have := hfG _ h.symm; omega)).trans kG
  replace hrW := hrW.far hrW0 (by omega) oG hg10
  replace hV := hV.far hV0 hB9.size (by omega) oG hg10
  clear hg10 hB9 oG oG0 hfG
  obtain ⟨d0, d1, d2, d3⟩ := box_cells kG
  replace kW := Lib.hid kW
  replace kG := Lib.hid kG
  go_wp2_with fail
  replace kW := kW.out
  replace kG := kG.out
  clear d0 d1 d2 d3
  refine (heldAddress_any a AG nG cG 1 _ (Rd.own oH) (by omega)).mono ?_
  rintro e w11 ⟨rfl, hb11⟩
  have hB11 := bstep hB10 hb11
  have hs11 := hb11.size
  replace hV := hV.step hb11
  replace hrW := hrW.below hb11
  replace kW := (hb11.block _ (by omega)).trans kW
  replace kG := (hb11.block _ (by omega)).trans kG
  replace oH := own_below oH hb11
  clear hb11 hB10
  have g11 : decide ((1 : Int) + (nG : Int) < 0) = false := by simp; omega
  have gne : (((1 : Int) + (nG : Int)) != (1 + (nG : Int))) = false := by simp
  go_wp2_with fail
  refine (addressFrom_impl s _ (by omega) hV a b hf.out).mono ?_
  rintro e w13 ⟨AK, nK, cK, rfl, hnK, hsK, oK, hb13⟩
  have hB13 := bstep hB11 hb13
  have hs13 := hb13.size
  replace hrW := hrW.below hb13
  replace kW := (hb13.block _ (by omega)).trans kW
  replace kG := (hb13.block _ (by omega)).trans kG
  replace oH := own_below oH hb13
  clear hb13 hB11 hV
  have hlW3 : w2.heap.size < w13.heap.size := by omega
  obtain ⟨c0, c1, c2, c3⟩ := box_cells kW
  replace kW := Lib.hid kW
  replace kG := Lib.hid kG
  go_wp2_with fail
  replace kG := kG.out
  refine calls_gen fun wE hwE => ?_
  have hb14 : Below w13.heap.size w13 wE := by rw [hwE]; go_grown
  have hsE : wE.heap.size = w13.heap.size + 1 := by rw [hwE]; simp
  clear hwE kW c0 c1 c2 c3
  have hBE := bstep hB13 hb14
  have hrK := Rd.own oK
  replace hrW := hrW.below hb14
  replace kG := (hb14.block _ (by omega)).trans kG
  replace oH := own_below oH hb14
  replace hrK := hrK.below hb14
  clear hb14 hB13 oK
  refine (eqAddress_same a AK nK cK AW nW cW _ hrK hrW).mono ?_
  rintro e w15 ⟨rfl, he15⟩
  have hB15 := bstep hBE he15
  have hs15 := he15.size
  replace hrW := hrW.below he15
  replace kG := (he15.block _ (by omega)).trans kG
  replace oH := own_below oH he15
  clear he15 hBE
  obtain ⟨d0, d1, d2, d3⟩ := box_cells kG
  replace kG := Lib.hid kG
  go_wp2_with fail
  refine (heldAddress_any a AG nG cG 1 _ (Rd.own oH) (by omega)).mono ?_
  rintro e w16 ⟨rfl, hb16⟩
  have hB16 := bstep hB15 hb16
  clear hb16 hB15 oH hrW hrK
  go_wp2_with fail
  go_ret
  exact ⟨rfl, hB16⟩

/-- A world for the witness: what the variables' door leaves, and the pinned table. -/
noncomputable def laidWorld_FnExactAddressFrom (os : Os) : World :=
  { World.doorLaid Tryd.prog 72 os with heap := (World.doorLaid Tryd.prog 72 os).heap.modify 4 fun
      | .cells _ t frozen => .cells (Go.Pinned.utf8FirstZ.map fun (z : Nat) => Value.int .u8 (z : Int)).toArray t frozen
      | o => o }
theorem laid_met_FnExactAddressFrom (os : Os) : laidMet Tryd.prog Rows.fnExactAddressFromRow.laid ((laidWorld_FnExactAddressFrom os).forCall (fun _ _ => 0) ⟨#[], #[.string ByteArray.empty], []⟩).memory :=
  laidMet_of_run' 8 (by kernel_rfl) (by kernel_rfl)
theorem reads_FnExactAddressFrom (os : Os) {H : Type} (enc : TypeId × Value → H) : ∃ places, DataW.whole enc Tryd.prog ((laidWorld_FnExactAddressFrom os).forCall (fun _ _ => 0) ⟨#[], #[.string ByteArray.empty], []⟩).memory Tryd.f13.params.toList Rows.fnExactAddressFromSpec.vars false (#[.string ByteArray.empty] : Array Value).toList 8 = some ([.lit (.string [])], [], places) :=
  ⟨[], by kernel_rfl⟩
set_option maxRecDepth 100000 in
theorem lifted_FnExactAddressFrom (os : Os) (started : os.Started) (H : Type) (enc : TypeId × Value → H) (F : Stop.Interp) :
    ReturnsInHanded {} Tryd.checked os 13 .any ((OpenSpec.ofChange Rows.fnExactAddressFromSpec).preRow enc Tryd.prog Tryd.f13 Rows.fnExactAddressFromRow.domain false Rows.fnExactAddressFromRow.laid) (((OpenSpec.ofChange Rows.fnExactAddressFromSpec).at F).post enc Tryd.prog Tryd.f13 false true false false) := by
  obtain ⟨places, hx⟩ := reads_FnExactAddressFrom os enc
  refine returnsInHanded_of_row (C := Tryd.checked) (s := OpenSpec.ofChange Rows.fnExactAddressFromSpec) row_own started (by kernel_rfl) Tryd.func13
    (witness_row_at (enc := enc) (C := Tryd.checked) false (laidWorld_FnExactAddressFrom os) #[.string ByteArray.empty] rfl (by kernel_rfl) (by kernel_rfl) (by kernel_rfl)
      (OpenSpec.preRow_of_cond 8 hx (by kernel_rfl) (fun k hk => by cases hk) (by kernel_rfl) (laid_met_FnExactAddressFrom os))) ?_
  intro W base args ds gs before hval0 hW _ _ _ hL hsh _
  have hval : ∀ (j : Nat) t v, Tryd.f13.params[j]? = some t → args[j]? = some v → Value.okWide Tryd.prog W .any base t v := hval0
  have hW' := hW
  obtain ⟨p, q, hA0, hV, rfl, hfz, hnd⟩ := hW
  have hA : DataW.TrodAll enc Tryd.prog W 0 (fun _ => true) true Tryd.f13.params.toList args.toList ds p := hA0
  rw [Tryd.params13] at hA hval
  obtain ⟨v0, vs0, d0, ds0, p0, q0, hargs, rfl, rfl, h0, r0⟩ := trodAll_cons hA
  obtain ⟨rfl, rfl, rfl⟩ := trodAll_nil r0
  obtain rfl : args = #[v0] := by cases args; simp_all
  obtain ⟨rfl, rfl⟩ := trodVars_none hV
  obtain ⟨a0, rfl, rfl, rfl, w0⟩ := open_string Tryd.underlying9 (hval 0 9 v0 rfl rfl) h0
  clear hA0 hval0
  have hM : EnvM W := envM_shaped hsh
  have hP : EnvP W := envP_laid (hL.filter fun x => x.1 == "internal/strconv.uint64pow10")
  have hE : EnvE W := envE_laid (hL.filter fun x => x.1 == "strconv.ErrSyntax") (hL.filter fun x => x.1 == "strconv.ErrRange")
  clear hL hsh
  refine (walk_FnExactAddressFrom a0 W w0 ⟨hM, hP, hE⟩).mono fun e W' ⟨he, bel⟩ => ?_
  subst he
  exact ⟨_, rfl, _, _, _, [], _, [], hW', trodAll_mk1 (shut_bool Tryd.underlying4 _), (trodAll_cons_mk (shut_string Tryd.underlying9 w0) trodAll_mk0), rfl, bel.frame _, fun h => by cases h⟩

theorem over_FnExactAddressFrom : Rows.FnExactAddressFromSaid :=
  OpenClaim.holds_of_cond 13 Tryd.f13 rfl rfl rfl rfl rfl rfl rfl ⟨rfl, rfl, rfl, rfl, rfl⟩ rfl rfl rfl rfl rfl (by kernel_rfl) Tryd.func13 (by kernel_rfl)
    (of_decide_eq_true (by kernel_rfl)) (by unfold Func.isWrapper; first | (rw [if_pos (by decide +kernel)]; kernel_rfl) | (rw [if_neg (by decide +kernel)]; exact ⟨rfl, rfl⟩))
    (fun os started H enc _ F => by rw [OpenClaim.pre_eq_preRow]; exact lifted_FnExactAddressFrom os started H enc F)
theorem plain_FnExactAddressFrom (f : FuncId) (fn : Func) (hf : Tryd.pinned.checked.prog.funcNamed "loop.example/proxyframes/laws.FnExactAddressFrom" = some f) (hfn : Tryd.pinned.checked.prog.funcs[f]? = some fn) :
    true = Tryd.pinned.checked.prog.looks [] ∧ ∀ (j : Nat) t, fn.params[j]? = some t → Tryd.pinned.checked.prog.wantsStandIn t = false := by
  obtain rfl : f = 13 := Option.some.inj ((show Tryd.prog.funcNamed "loop.example/proxyframes/laws.FnExactAddressFrom" = some 13 by kernel_rfl).symm.trans hf) |>.symm
  obtain rfl : fn = Tryd.f13 := (Option.some.inj (Tryd.func13.symm.trans hfn)).symm
  refine ⟨by kernel_rfl, fun j t ht => ?_⟩
  rw [Tryd.params13] at ht
  obtain rfl : t = 9 := by simpa using Array.mem_of_getElem? ht
  exact (show Tryd.prog.wantsStandIn 9 = false by kernel_rfl)

/-- The statement. -/
theorem fnExactAddressFrom_holds : Rows.FnExactAddressFromCardSaid :=
  Claim7.holds_tied_plain_at .later [] _ _ _ _ over_FnExactAddressFrom (fun _ h => by cases h) (by kernel_rfl) (fun _ h => by cases h) fnExactAddressFrom_row_tie rfl ⟨rfl, rfl⟩ (by kernel_rfl) rfl plain_FnExactAddressFrom (by kernel_rfl)
#print axioms fnExactAddressFrom_holds
end Go.Proofs.YthgfldabeaepaaaDoor
