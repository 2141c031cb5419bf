/- The statement FnExactOldFrom: the program's OldFrom answers what the reference's answers, for every row of bytes. No condition. -/
import Derived.Test.YtjlgkepbflcefaaDoorCard
import Derived.Test.YtjlgkepbflcefaaDoorRowA
import Derived.Test.YtjlgkepbflcefaaDoorOS
import Derived.Test.YtjlgkepbflcefaaDoorOd
namespace Go.Proofs.YtjlgkepbflcefaaDoor
open Go.ChangeShapes Go.WideShapes Go.ChangeAt Go.RowKit
open Go.ChangeMaps (open_string shut_string)
set_option maxRecDepth 20000 in
set_option maxHeartbeats 8000000 in
theorem walk_FnExactOldFrom (A : Option Addr) (n c : Nat) (zs : List Int) (w : World) (w0 : Rd w A n (zs.map (Value.int .i64)) ∧ n ≤ c ∧ c ≤ maxLen ∧ ∀ x ∈ zs, (Lit.int .i64 x).wf = true) (hM : EnvM w) :
    Calls Tryd.prog 10 #[.slice A n c] w fun e w' => e = .returned (.bool true) ∧ Below w.heap.size w w' := by
  obtain ⟨hx, _, _, _⟩ := w0
  have hm := hx.max
  by_cases hbig : n ≤ 1048576
  case neg =>
    have hd : decide (1048576 < (n : Int)) = true := by simp; omega
    go_enter Tryd.func10, Tryd.ntmps10
    go_wp2_with fail
    go_ret
    exact ⟨rfl, Below.refl _ _⟩
  have hd : decide (1048576 < (n : Int)) = false := by simp; omega
  obtain ⟨x, m, b, hf⟩ : ∃ x m b, odO zs = (x, m, b) := ⟨_, _, _, rfl⟩
  replace hf := Lib.hid hf
  go_enter Tryd.func10, Tryd.ntmps10
  go_wp2_with fail
  refine (toIntS_any A n c zs _ hx hbig).mono ?_
  rintro e w1 ⟨A1, c1, rfl, o1, hb1⟩
  have hB1 := hb1
  have hs1 := hb1.size
  have hxw := hx
  have hml := hM.lt
  replace hx := hx.below hb1
  replace hM := hM.step hb1
  clear hb1
  go_wp2_with fail
  refine (oldFrom_spec A1 n c1 zs _ (Rd.own o1) (own_cap o1).1 (by omega) _ _ _ hf.out).mono ?_
  rintro e w2 ⟨AW, nW, cW, rfl, hnW, hsW, oW, hb2⟩
  have hB2 := bstep hB1 hb2
  have hs2 := hb2.size
  replace hx := hx.below hb2
  replace hM := hM.step hb2
  have hrW := Rd.own oW
  have hrW0 := hrW
  clear hb2 hB1 oW o1
  go_wp2_with fail
  refine calls_gen fun wB hwB => ?_
  have kW : wB.heap[w2.heap.size]? = some (.cells #[.int .i64 x.cmd, .int .i64 x.to.kind, .slice AW nW cW, .string x.to.name, .int .i64 x.to.port, .string x.user] 39 (0, 0)) := by
    rw [hwB]
    exact heap_alloc_new w2 _
  have hb3 : Below w2.heap.size w2 wB := by rw [hwB]; go_grown
  have hsB : wB.heap.size = w2.heap.size + 1 := by rw [hwB]; simp
  clear hwB
  have hBB := bstep hB2 hb3
  replace hx := hx.below hb3
  replace hM := hM.step hb3
  replace hrW := hrW.below hb3
  clear hb3 hB2
  refine (toIntS_any A n c zs _ hx hbig).mono ?_
  rintro e w3 ⟨AX, cX, rfl, oX, hb4⟩
  have oX0 := oX
  have hB3 := bstep hBB hb4
  have hs3 := hb4.size
  replace hx := hx.below hb4
  replace hM := hM.step hb4
  replace hrW := hrW.below hb4
  replace kW := (hb4.block _ (by omega)).trans kW
  clear hb4 hBB
  go_wp2_with fail
  refine (oldFrom_impl AX n cX zs _ hM (Rd.own oX) (own_flat oX) (own_cap oX).1 (by omega) _ _ _ hf.out).mono ?_
  rintro e w4 ⟨AG, nG, cG, rfl, hnG, hsG, oG, hb5⟩
  have oG0 := oG
  have hB4 := bstep hB3 hb5
  have hs4 := hb5.size
  replace hx := hx.below hb5
  replace hM := hM.step hb5
  replace hrW := hrW.below hb5
  replace kW := (hb5.block _ (by omega)).trans kW
  replace oX := own_below oX hb5
  clear hb5 hB3
  have hlW : w2.heap.size < w4.heap.size := by omega
  obtain ⟨c0, c1, c2, c3, c4, c5⟩ := six_cells kW
  replace kW := Lib.hid kW
  go_wp2_with fail
  replace kW := kW.out
  refine calls_gen fun wC hwC => ?_
  obtain ⟨wD, hwD⟩ : ∃ wD : World, wD = w4.alloc (.cells #[.int .i64 x.cmd, .int .i64 x.to.kind, .slice AG nG cG, .string x.to.name, .int .i64 x.to.port, .string x.user] 39) := ⟨_, rfl⟩
  have hwCD : wC = wD := hwC.trans hwD.symm
  subst hwCD
  have kG : wC.heap[w4.heap.size]? = some (.cells #[.int .i64 x.cmd, .int .i64 x.to.kind, .slice AG nG cG, .string x.to.name, .int .i64 x.to.port, .string x.user] 39 (0, 0)) := by
    rw [hwC]
    exact heap_alloc_new w4 _
  have hb6 : Below w4.heap.size w4 wC := by rw [hwC]; go_grown
  have hsC : wC.heap.size = w4.heap.size + 1 := by rw [hwC]; simp
  clear hwC hwD
  have hBC := bstep hB4 hb6
  replace hx := hx.below hb6
  replace hM := hM.step hb6
  replace hrW := hrW.below hb6
  replace kW := (hb6.block _ (by omega)).trans kW
  replace oX := own_below oX hb6
  replace oG := own_below oG hb6
  clear hb6 hB4 c0 c1 c2 c3 c4 c5
  refine (eqOld_same x AG nG cG AW nW cW _ (Rd.own oG) hrW).mono ?_
  rintro e w5 ⟨rfl, he5⟩
  have hB5 := bstep hBC he5
  have hs5 := he5.size
  replace hx := hx.below he5
  replace hM := hM.step he5
  replace hrW := hrW.below he5
  replace kW := (he5.block _ (by omega)).trans kW
  replace oX := own_below oX he5
  replace oG := own_below oG he5
  replace kG := (he5.block _ (by omega)).trans kG
  clear he5 hBC
  have hmm : ((m : Int) != (m : Int)) = false := by simp
  have hbb : (b != b) = false := by simp
  go_wp2_with fail
  refine (toIntS_any A n c zs _ hx hbig).mono ?_
  rintro e w6 ⟨A6, c6, rfl, o6, hb7⟩
  have hB6 := bstep hB5 hb7
  have hs6 := hb7.size
  replace hx := hx.below hb7
  replace hM := hM.step hb7
  replace hrW := hrW.below hb7
  replace kW := (hb7.block _ (by omega)).trans kW
  replace oX := own_below oX hb7
  replace oG := own_below oG hb7
  replace kG := (hb7.block _ (by omega)).trans kG
  have hr6 := Rd.own o6
  clear hb7 hB5 o6
  go_wp2_with fail
  refine (eqIntS_any _ _ _ _ _ _ _ _ _ (Rd.own oX) hr6).mono ?_
  rintro e w7 ⟨rfl, hb8⟩
  rw [decide_eq_true rfl]
  have hB7 := bstep hB6 hb8
  have hs7 := hb8.size
  replace hx := hx.below hb8
  replace hM := hM.step hb8
  replace hrW := hrW.below hb8
  replace kW := (hb8.block _ (by omega)).trans kW
  replace oX := own_below oX hb8
  replace oG := own_below oG hb8
  replace kG := (hb8.block _ (by omega)).trans kG
  clear hb8 hB6 hr6
  go_wp2_with fail
  refine (markIntS_any _ _ _ _ _ _ _ oX (by omega)).mono ?_
  rintro e w8 ⟨rfl, _, hg8⟩
  have hB8 := bown hB7 oX (by omega) hg8
  have hs8 := hg8.size
  have hfX : ∀ k, Value.ownBlock (.slice AX n cX) = some k → wB.heap.size ≤ k ∧ k < w3.heap.size := oX0.lt
  replace kW := (hg8.block _ (by omega) (fun h => by have := hfX _ h.symm; omega)).trans kW
  replace kG := (hg8.block _ (by omega) (fun h => by have := hfX _ h.symm; omega)).trans kG
  replace hrW := hrW.far hrW0 (by omega) oX hg8
  replace oG := own_two oX0 (Nat.le_refl _) oG hg8
  replace hM := hM.grown hg8 (fun k hk => by have := hfX k hk; omega)
  replace hx := hx.far hxw (by omega) oX hg8
  clear hg8 hB7 oX oX0 hfX
  have g8 : decide ((1 : Int) + (n : Int) < 0) = false := by simp; omega
  obtain ⟨c0, c1, c2, c3, c4, c5⟩ := six_cells kW
  obtain ⟨d0, d1, d2, d3, d4, d5⟩ := six_cells kG
  replace kW := Lib.hid kW
  replace kG := Lib.hid kG
  go_wp2_with fail
  replace kW := kW.out
  replace kG := kG.out
  clear c0 d0 c1 d1 c2 d2 c3 d3 c4 d4 c5 d5
  refine (eqOld_same x AG nG cG AW nW cW _ (Rd.own oG) hrW).mono ?_
  rintro e w9 ⟨rfl, he9⟩
  have hB9 := bstep hB8 he9
  have hs9 := he9.size
  replace hx := hx.below he9
  replace hM := hM.step he9
  replace hrW := hrW.below he9
  replace kW := (he9.block _ (by omega)).trans kW
  replace oG := own_below oG he9
  replace kG := (he9.block _ (by omega)).trans kG
  clear he9 hB8
  obtain ⟨d0, d1, d2, d3, d4, d5⟩ := six_cells kG
  replace kW := Lib.hid kW
  replace kG := Lib.hid kG
  go_wp2_with fail
  replace kW := kW.out
  replace kG := kG.out
  clear d0 d1 d2 d3 d4 d5
  refine (markOld_any _ x AG nG cG 1 _ oG (by omega)).mono ?_
  rintro e w10 ⟨rfl, oH, hg10⟩
  have hB10 := bown hB9 oG (by omega) hg10
  have hs10 := hg10.size
  have hfG : ∀ k, Value.ownBlock (.slice AG nG cG) = some k → w3.heap.size ≤ k ∧ k < w4.heap.size := oG0.lt
  replace kW := (hg10.block _ (by omega) (fun h => by have := hfG _ h.symm; omega)).trans kW
  replace kG := (hg10.block _ (by omega) (fun h => by have := hfG _ h.symm; omega)).trans kG
  replace hrW := hrW.far hrW0 (by omega) oG hg10
  replace hM := hM.grown hg10 (fun k hk => by have := hfG k hk; omega)
  replace hx := hx.far hxw (by omega) oG hg10
  clear hg10 hB9 oG oG0 hfG
  obtain ⟨d0, d1, d2, d3, d4, d5⟩ := six_cells kG
  replace kW := Lib.hid kW
  replace kG := Lib.hid kG
  go_wp2_with fail
  replace kW := kW.out
  replace kG := kG.out
  clear d0 d1 d2 d3 d4 d5
  refine (heldOld_any x AG nG cG 1 _ (Rd.own oH) (by omega)).mono ?_
  rintro e w11 ⟨rfl, hb11⟩
  have hB11 := bstep hB10 hb11
  have hs11 := hb11.size
  replace hx := hx.below hb11
  replace hM := hM.step hb11
  replace hrW := hrW.below hb11
  replace kW := (hb11.block _ (by omega)).trans kW
  replace kG := (hb11.block _ (by omega)).trans kG
  replace oH := own_below oH hb11
  clear hb11 hB10
  have g11 : decide ((1 : Int) + (nG : Int) < 0) = false := by simp; omega
  have gne : (((1 : Int) + (nG : Int)) != (1 + (nG : Int))) = false := by simp
  go_wp2_with fail
  refine (toIntS_any A n c zs _ hx hbig).mono ?_
  rintro e w12 ⟨A12, c12, rfl, o12, hb12⟩
  have hB12 := bstep hB11 hb12
  have hs12 := hb12.size
  replace hM := hM.step hb12
  replace hrW := hrW.below hb12
  replace kW := (hb12.block _ (by omega)).trans kW
  replace kG := (hb12.block _ (by omega)).trans kG
  replace oH := own_below oH hb12
  clear hb12 hB11 hx
  go_wp2_with fail
  refine (oldFrom_impl A12 n c12 zs _ hM (Rd.own o12) (own_flat o12) (own_cap o12).1 (by omega) _ _ _ hf.out).mono ?_
  rintro e w13 ⟨AK, nK, cK, rfl, hnK, hsK, oK, hb13⟩
  have hB13 := bstep hB12 hb13
  have hs13 := hb13.size
  replace hrW := hrW.below hb13
  replace kW := (hb13.block _ (by omega)).trans kW
  replace kG := (hb13.block _ (by omega)).trans kG
  replace oH := own_below oH hb13
  clear hb13 hB12 hM o12
  have hlW3 : w2.heap.size < w13.heap.size := by omega
  obtain ⟨c0, c1, c2, c3, c4, c5⟩ := six_cells kW
  replace kW := Lib.hid kW
  replace kG := Lib.hid kG
  go_wp2_with fail
  replace kG := kG.out
  refine calls_gen fun wE hwE => ?_
  have hb14 : Below w13.heap.size w13 wE := by rw [hwE]; go_grown
  have hsE : wE.heap.size = w13.heap.size + 1 := by rw [hwE]; simp
  clear hwE kW c0 c1 c2 c3 c4 c5
  have hBE := bstep hB13 hb14
  have hrK := Rd.own oK
  replace hrW := hrW.below hb14
  replace kG := (hb14.block _ (by omega)).trans kG
  replace oH := own_below oH hb14
  replace hrK := hrK.below hb14
  clear hb14 hB13 oK
  refine (eqOld_same x AK nK cK AW nW cW _ hrK hrW).mono ?_
  rintro e w15 ⟨rfl, he15⟩
  have hB15 := bstep hBE he15
  have hs15 := he15.size
  replace hrW := hrW.below he15
  replace kG := (he15.block _ (by omega)).trans kG
  replace oH := own_below oH he15
  clear he15 hBE
  obtain ⟨d0, d1, d2, d3, d4, d5⟩ := six_cells kG
  replace kG := Lib.hid kG
  go_wp2_with fail
  refine (heldOld_any x AG nG cG 1 _ (Rd.own oH) (by omega)).mono ?_
  rintro e w16 ⟨rfl, hb16⟩
  have hB16 := bstep hB15 hb16
  clear hb16 hB15 oH hrW hrK
  go_wp2_with fail
  go_ret
  exact ⟨rfl, hB16⟩

/-- A world for the witness: what the variables' door leaves, and the pinned table. -/
noncomputable def laidWorld_FnExactOldFrom (os : Os) : World :=
  { World.doorLaid Tryd.prog 19 os with heap := (World.doorLaid Tryd.prog 19 os).heap.modify 1 fun
      | .cells _ t frozen => .cells (Go.Pinned.utf8FirstZ.map fun (z : Nat) => Value.int .u8 (z : Int)).toArray t frozen
      | o => o }
theorem laid_met_FnExactOldFrom (os : Os) : laidMet Tryd.prog Rows.fnExactOldFromRow.laid ((laidWorld_FnExactOldFrom os).forCall (fun _ _ => 0) ⟨#[], #[.slice none 0 0], []⟩).memory :=
  laidMet_of_run' 8 (by kernel_rfl) (by kernel_rfl)
theorem reads_FnExactOldFrom (os : Os) {H : Type} (enc : TypeId × Value → H) : ∃ places, DataW.whole enc Tryd.prog ((laidWorld_FnExactOldFrom os).forCall (fun _ _ => 0) ⟨#[], #[.slice none 0 0], []⟩).memory Tryd.f10.params.toList Rows.fnExactOldFromSpec.vars false (#[.slice none 0 0] : Array Value).toList 8 = some ([.nil], [], places) :=
  ⟨[], by kernel_rfl⟩
set_option maxRecDepth 100000 in
theorem lifted_FnExactOldFrom (os : Os) (started : os.Started) (H : Type) (enc : TypeId × Value → H) (F : Stop.Interp) :
    ReturnsInHanded {} Tryd.checked os 10 .any ((OpenSpec.ofChange Rows.fnExactOldFromSpec).preRow enc Tryd.prog Tryd.f10 Rows.fnExactOldFromRow.domain false Rows.fnExactOldFromRow.laid) (((OpenSpec.ofChange Rows.fnExactOldFromSpec).at F).post enc Tryd.prog Tryd.f10 false true false false) := by
  obtain ⟨places, hx⟩ := reads_FnExactOldFrom os enc
  refine returnsInHanded_of_row (C := Tryd.checked) (s := OpenSpec.ofChange Rows.fnExactOldFromSpec) row_own started (by kernel_rfl) Tryd.func10
    (witness_row_at (enc := enc) (C := Tryd.checked) false (laidWorld_FnExactOldFrom os) #[.slice none 0 0] rfl (by kernel_rfl) (by kernel_rfl) (by kernel_rfl)
      (OpenSpec.preRow_of_cond 8 hx (by kernel_rfl) (fun k hk => by cases hk) (by kernel_rfl) (laid_met_FnExactOldFrom os))) ?_
  intro W base args ds gs before hval0 hW _ _ _ hL hsh _
  have hval : ∀ (j : Nat) t v, Tryd.f10.params[j]? = some t → args[j]? = some v → Value.okWide Tryd.prog W .any base t v := hval0
  have hW' := hW
  obtain ⟨p, q, hA0, hV, rfl, hfz, hnd⟩ := hW
  have hA : DataW.TrodAll enc Tryd.prog W 0 (fun _ => true) true Tryd.f10.params.toList args.toList ds p := hA0
  rw [Tryd.params10] at hA hval
  obtain ⟨v0, vs0, d0, ds0, p0, q0, hargs, rfl, rfl, h0, r0⟩ := trodAll_cons hA
  obtain ⟨rfl, rfl, rfl⟩ := trodAll_nil r0
  obtain rfl : args = #[v0] := by cases args; simp_all
  obtain ⟨rfl, rfl⟩ := trodVars_none hV
  have k0 := h0
  have lt0 : ∀ x ∈ p0, x.block < W.heap.size := by obtain ⟨m, hm⟩ := k0; exact DataW.trod_lt m _ _ _ hm
  obtain ⟨a0, n0, c0, rfl⟩ := okWide_slice Tryd.underlying22 (hval 0 22 v0 rfl rfl)
  obtain ⟨z0, w0⟩ := rd_open Tryd.underlying22 Tryd.underlying3 (by kernel_rfl) h0
  clear hA0 hval0
  have hM : EnvM W := envM_shaped hsh
  clear hL hsh
  refine (walk_FnExactOldFrom a0 n0 c0 z0 W w0 hM).mono fun e W' ⟨he, bel⟩ => ?_
  subst he
  exact ⟨_, rfl, _, _, _, [], _, [], hW', trodAll_mk1 (shut_bool Tryd.underlying4 _), (trodAll_cons_mk (Below.trod row_laidOut (by kernel_rfl) (of_decide_eq_true (by kernel_rfl)) k0 bel lt0) trodAll_mk0), rfl, bel.frame _, fun h => by cases h⟩

theorem over_FnExactOldFrom : Rows.FnExactOldFromSaid :=
  OpenClaim.holds_of_cond 10 Tryd.f10 rfl rfl rfl rfl rfl rfl rfl ⟨rfl, rfl, rfl, rfl, rfl⟩ rfl rfl rfl rfl rfl (by kernel_rfl) Tryd.func10 (by kernel_rfl)
    (of_decide_eq_true (by kernel_rfl)) (by unfold Func.isWrapper; first | (rw [if_pos (by decide +kernel)]; kernel_rfl) | (rw [if_neg (by decide +kernel)]; exact ⟨rfl, rfl⟩))
    (fun os started H enc _ F => by rw [OpenClaim.pre_eq_preRow]; exact lifted_FnExactOldFrom os started H enc F)
theorem plain_FnExactOldFrom (f : FuncId) (fn : Func) (hf : Tryd.pinned.checked.prog.funcNamed "loop.example/proxyframes/laws.FnExactOldFrom" = some f) (hfn : Tryd.pinned.checked.prog.funcs[f]? = some fn) :
    false = Tryd.pinned.checked.prog.looks [] ∧ ∀ (j : Nat) t, fn.params[j]? = some t → Tryd.pinned.checked.prog.wantsStandIn t = false := by
  obtain rfl : f = 10 := Option.some.inj ((show Tryd.prog.funcNamed "loop.example/proxyframes/laws.FnExactOldFrom" = some 10 by kernel_rfl).symm.trans hf) |>.symm
  obtain rfl : fn = Tryd.f10 := (Option.some.inj (Tryd.func10.symm.trans hfn)).symm
  refine ⟨by kernel_rfl, fun j t ht => ?_⟩
  rw [Tryd.params10] at ht
  obtain rfl : t = 22 := by simpa using Array.mem_of_getElem? ht
  exact (show Tryd.prog.wantsStandIn 22 = false by kernel_rfl)

/-- The statement. -/
theorem fnExactOldFrom_holds : Rows.FnExactOldFromCardSaid :=
  Claim7.holds_tied_plain_at .later [] _ _ _ _ over_FnExactOldFrom (fun _ h => by cases h) (by kernel_rfl) (fun _ h => by cases h) fnExactOldFrom_row_tie rfl ⟨rfl, rfl⟩ (by kernel_rfl) rfl plain_FnExactOldFrom (by kernel_rfl)
#print axioms fnExactOldFrom_holds
end Go.Proofs.YtjlgkepbflcefaaDoor
