/- The statement FnOldFrom: a request that is read has the bytes that were read. No condition. -/
import Derived.Test.YtjlgkepbflcefaaDoorCard
import Derived.Test.YtjlgkepbflcefaaDoorDrawC
import Derived.Test.YtjlgkepbflcefaaDoorOS
import Derived.Test.YtjlgkepbflcefaaDoorOB
import Derived.Test.YtjlgkepbflcefaaDoorDrawF
namespace Go.Proofs.YtjlgkepbflcefaaDoor
open Go.ChangeShapes Go.WideShapes Go.ChangeAt Go.RowKit
open Go.ChangeMaps (open_string shut_string)
set_option maxRecDepth 20000 in
set_option maxHeartbeats 1000000 in
theorem isBegin_yes (A D : Option Addr) (n c m d : Nat) (zs : List Int) (w : World) (hx : Rd w A n (ints zs)) (hc : n ≤ c) (hy : Rd w D m (ints (zs.take m))) (hmn : m ≤ n) :
    Calls Tryd.prog 26 #[.slice A n c, .slice D m d] w fun e w' => e = .returned (.bool true) ∧ Below w.heap.size w w' := by
  have h1 : (m : Int) ≤ (n : Int) := by omega
  have h2 : (m : Int) ≤ (c : Int) := by omega
  have h3 : decide ((m : Int) ≤ (n : Int)) = true := by simp; omega
  have hm := hx.max
  have hxt := hx.take hmn
  rw [ints, ← List.map_take] at hxt
  go_enter Tryd.func26, Tryd.ntmps26
  go_wp2_with fail
  refine (sameBytes_any _ _ _ _ _ _ _ _ _ hxt hy).mono ?_
  rintro e w2 ⟨rfl, hb⟩
  rw [decide_eq_true rfl]
  go_wp2_with fail
  go_ret
  exact ⟨rfl, hb⟩
set_option maxRecDepth 20000 in
set_option maxHeartbeats 4000000 in
theorem walk_FnOldFrom (a0 : Option Addr) (n0 c0 : Nat) (z0 : List Int) (w : World) (w0 : Rd w a0 n0 (z0.map (Value.int .u8)) ∧ n0 ≤ c0 ∧ c0 ≤ maxLen ∧ ∀ x ∈ z0, (Lit.int .u8 x).wf = true) (hM : EnvM w) :
    Calls Tryd.prog 14 #[.slice a0 n0 c0] w fun e w' => e = .returned (.bool true) ∧ Below w.heap.size w w' := by
  obtain ⟨hx, hc, _, hwf⟩ := w0
  have hv : ∀ z ∈ z0, 0 ≤ z ∧ z ≤ 255 := fun z hz => bounds_u8 (hwf z hz)
  clear hwf
  replace hv := Lib.hid hv
  have hm := hx.max
  by_cases hbig : n0 ≤ 1048576
  case neg =>
    have hd : decide (1048576 < (n0 : Int)) = true := by simp; omega
    go_enter Tryd.func14, Tryd.ntmps14
    go_wp2_with fail
    go_ret
    exact ⟨rfl, Below.refl _ _⟩
  have hd : decide (1048576 < (n0 : Int)) = false := by simp; omega
  go_enter Tryd.func14, Tryd.ntmps14
  go_wp2_with fail
  refine (drawOldFrom_any _ _ _ _ _ hx hc hv.out).mono ?_
  rintro e w1 ⟨A, n, c, zs, rfl, hn, ho, hB1⟩
  replace hM := hM.step hB1
  have hs1 := hB1.size
  have hr := Rd.own ho
  have hfl := own_flat ho
  have hcap := (own_cap ho).1
  have hzl := hr.ilen
  clear ho hx hv
  obtain ⟨x, m, b, hf⟩ : ∃ x m b, odO zs = (x, m, b) := ⟨_, _, _, rfl⟩
  replace hf := Lib.hid hf
  go_wp2_with fail
  refine (oldFrom_impl A n c zs _ hM hr hfl hcap (by omega) _ _ _ hf.out).mono ?_
  rintro e w2 ⟨AG, nG, cG, rfl, hnG, hsG, oG, hb2⟩
  have hB2 := bstep hB1 hb2
  have hs2 := hb2.size
  replace hM := hM.step hb2
  replace hr := hr.below hb2
  have hrG := Rd.own oG
  have hcapG := (own_cap oG).1
  clear hb2 hB1 oG
  go_wp2_with fail
  refine calls_gen fun wB hwB => ?_
  have kG : wB.heap[w2.heap.size]? = some (.cells #[.int .i64 x.cmd, .int .i64 x.to.kind, .slice AG nG cG, .string x.to.name, .int .i64 x.to.port, .string x.user] 39 (0, 0)) := by
    rw [hwB]
    exact heap_alloc_new w2 _
  have hb3 : Below w2.heap.size w2 wB := by rw [hwB]; go_grown
  have hsB : wB.heap.size = w2.heap.size + 1 := by rw [hwB]; simp
  clear hwB
  have hBB := bstep hB2 hb3
  replace hM := hM.step hb3
  replace hr := hr.below hb3
  replace hrG := hrG.below hb3
  clear hb3 hB2
  refine (oldFrom_spec A n c zs _ hr hcap (by omega) _ _ _ hf.out).mono ?_
  rintro e w3 ⟨AW, nW, cW, rfl, hnW, hsW, oW, hb4⟩
  have hB3 := bstep hBB hb4
  have hs3 := hb4.size
  replace hM := hM.step hb4
  replace hr := hr.below hb4
  replace hrG := hrG.below hb4
  replace kG := (hb4.block _ (by omega)).trans kG
  have hrW := Rd.own oW
  clear hb4 hBB oW
  have hlG : w2.heap.size < w3.heap.size := by omega
  obtain ⟨c0, c1, c2, c3, c4, c5⟩ := six_cells kG
  replace kG := Lib.hid kG
  have hmm : ((m : Int) != (m : Int)) = false := by simp
  have hme : ((m : Int) == (m : Int)) = true := by simp
  have hbb : (b != b) = false := by simp
  have hbe : (b == b) = true := by simp
  go_wp2_with fail
  refine calls_gen fun wC hwC => ?_
  obtain ⟨wD, hwD⟩ : ∃ wD : World, wD = w3.alloc (.cells #[.int .i64 x.cmd, .int .i64 x.to.kind, .slice AW nW cW, .string x.to.name, .int .i64 x.to.port, .string x.user] 39) := ⟨_, rfl⟩
  have hwCD : wC = wD := hwC.trans hwD.symm
  subst hwCD
  have kW : wC.heap[w3.heap.size]? = some (.cells #[.int .i64 x.cmd, .int .i64 x.to.kind, .slice AW nW cW, .string x.to.name, .int .i64 x.to.port, .string x.user] 39 (0, 0)) := by
    rw [hwC]
    exact heap_alloc_new w3 _
  have hb5 : Below w3.heap.size w3 wC := by rw [hwC]; go_grown
  have hsC : wC.heap.size = w3.heap.size + 1 := by rw [hwC]; simp
  clear hwC hwD c0 c1 c2 c3 c4 c5
  have hBC := bstep hB3 hb5
  replace hM := hM.step hb5
  replace hr := hr.below hb5
  replace hrG := hrG.below hb5
  replace hrW := hrW.below hb5
  replace kG := (hb5.block _ (by omega)).trans kG.out
  clear hb5 hB3
  refine (sameOld_same x AG nG cG AW nW cW _ hrG hrW).mono ?_
  rintro e w4 ⟨rfl, hb6⟩
  have hB4 := bstep hBC hb6
  have hs4 := hb6.size
  replace hM := hM.step hb6
  replace hr := hr.below hb6
  replace hrG := hrG.below hb6
  replace hrW := hrW.below hb6
  replace kG := (hb6.block _ (by omega)).trans kG
  replace kW := (hb6.block _ (by omega)).trans kW
  clear hb6 hBC
  obtain ⟨c0, c1, c2, c3, c4, c5⟩ := six_cells kG
  obtain ⟨d0, d1, d2, d3, d4, d5⟩ := six_cells kW
  clear kG kW
  cases b
  case false =>
    go_wp2_with fail
    refine (sameOld_same x AG nG cG AW nW cW _ hrG hrW).mono ?_
    rintro e w5 ⟨rfl, hb7⟩
    go_wp2_with fail
    go_ret
    exact ⟨rfl, bstep hB4 hb7⟩
  case true =>
    obtain ⟨hav, hmn, heq⟩ := odO_take hf.out
    have hW : odW x = (odB x, true) := by unfold odW; rw [if_pos hav]
    have hlen : (odB x).length = m := by rw [heq]; simp; omega
    replace hW := Lib.hid hW
    clear hf hav hrW d0 d1 d2 d3 d4 d5
    go_wp2_with fail
    refine (oldBytes_impl x AG nG cG _ hM hrG hcapG (by omega) (by omega) _ _ hW.out).mono ?_
    rintro e w5 ⟨AX, nX, cX, rfl, oX, hb8⟩
    have hB5 := bstep hB4 hb8
    replace hr := hr.below hb8
    have hrX := Rd.own oX
    obtain rfl : nX = m := by have := hrX.ilen; omega
    rw [heq] at hrX
    replace heq := Lib.hid heq
    clear hb8 hB4 hM hrG oX hlen hW c0 c1 c2 c3 c4 c5 hmm hbb hbe
    go_wp2_with fail
    refine (isBegin_yes A AX n c nX cX zs _ hr hcap hrX (by omega)).mono ?_
    rintro e w6 ⟨rfl, hb9⟩
    go_wp2_with fail
    go_ret
    exact ⟨rfl, bstep hB5 hb9⟩

/-- A world for the witness: what the variables' door leaves, and the pinned table. -/
noncomputable def laidWorld_FnOldFrom (os : Os) : World :=
  { World.doorLaid Tryd.prog 19 os with heap := (World.doorLaid Tryd.prog 19 os).heap.modify 1 fun
      | .cells _ t frozen => .cells (Go.Pinned.utf8FirstZ.map fun (z : Nat) => Value.int .u8 (z : Int)).toArray t frozen
      | o => o }
theorem laid_met_FnOldFrom (os : Os) : laidMet Tryd.prog Rows.fnOldFromRow.laid ((laidWorld_FnOldFrom os).forCall (fun _ _ => 0) ⟨#[], #[.slice none 0 0], []⟩).memory :=
  laidMet_of_run' 8 (by kernel_rfl) (by kernel_rfl)
theorem reads_FnOldFrom (os : Os) {H : Type} (enc : TypeId × Value → H) : ∃ places, DataW.whole enc Tryd.prog ((laidWorld_FnOldFrom os).forCall (fun _ _ => 0) ⟨#[], #[.slice none 0 0], []⟩).memory Tryd.f14.params.toList Rows.fnOldFromSpec.vars false (#[.slice none 0 0] : Array Value).toList 8 = some ([.nil], [], places) :=
  ⟨[], by kernel_rfl⟩
set_option maxRecDepth 100000 in
theorem lifted_FnOldFrom (os : Os) (started : os.Started) (H : Type) (enc : TypeId × Value → H) (F : Stop.Interp) :
    ReturnsInHanded {} Tryd.checked os 14 .any ((OpenSpec.ofChange Rows.fnOldFromSpec).preRow enc Tryd.prog Tryd.f14 Rows.fnOldFromRow.domain false Rows.fnOldFromRow.laid) (((OpenSpec.ofChange Rows.fnOldFromSpec).at F).post enc Tryd.prog Tryd.f14 false true false false) := by
  obtain ⟨places, hx⟩ := reads_FnOldFrom os enc
  refine returnsInHanded_of_row (C := Tryd.checked) (s := OpenSpec.ofChange Rows.fnOldFromSpec) row_own started (by kernel_rfl) Tryd.func14
    (witness_row_at (enc := enc) (C := Tryd.checked) false (laidWorld_FnOldFrom os) #[.slice none 0 0] rfl (by kernel_rfl) (by kernel_rfl) (by kernel_rfl)
      (OpenSpec.preRow_of_cond 8 hx (by kernel_rfl) (fun k hk => by cases hk) (by kernel_rfl) (laid_met_FnOldFrom os))) ?_
  intro W base args ds gs before hval0 hW _ _ _ hL hsh _
  have hval : ∀ (j : Nat) t v, Tryd.f14.params[j]? = some t → args[j]? = some v → Value.okWide Tryd.prog W .any base t v := hval0
  have hW' := hW
  obtain ⟨p, q, hA0, hV, rfl, hfz, hnd⟩ := hW
  have hA : DataW.TrodAll enc Tryd.prog W 0 (fun _ => true) true Tryd.f14.params.toList args.toList ds p := hA0
  rw [Tryd.params14] at hA hval
  obtain ⟨v0, vs0, d0, ds0, p0, q0, hargs, rfl, rfl, h0, r0⟩ := trodAll_cons hA
  obtain ⟨rfl, rfl, rfl⟩ := trodAll_nil r0
  obtain rfl : args = #[v0] := by cases args; simp_all
  obtain ⟨rfl, rfl⟩ := trodVars_none hV
  have k0 := h0
  have lt0 : ∀ x ∈ p0, x.block < W.heap.size := by obtain ⟨m, hm⟩ := k0; exact DataW.trod_lt m _ _ _ hm
  obtain ⟨a0, n0, c0, rfl⟩ := okWide_slice Tryd.underlying33 (hval 0 33 v0 rfl rfl)
  obtain ⟨z0, w0⟩ := rd_open Tryd.underlying33 Tryd.underlying5 (by kernel_rfl) h0
  clear hA0 hval0
  have hM : EnvM W := envM_shaped hsh
  clear hL hsh
  refine (walk_FnOldFrom a0 n0 c0 z0 W w0 hM).mono fun e W' ⟨he, bel⟩ => ?_
  subst he
  exact ⟨_, rfl, _, _, _, [], _, [], hW', trodAll_mk1 (shut_bool Tryd.underlying4 _), (trodAll_cons_mk (Below.trod row_laidOut (by kernel_rfl) (of_decide_eq_true (by kernel_rfl)) k0 bel lt0) trodAll_mk0), rfl, bel.frame _, fun h => by cases h⟩

theorem over_FnOldFrom : Rows.FnOldFromSaid :=
  OpenClaim.holds_of_cond 14 Tryd.f14 rfl rfl rfl rfl rfl rfl rfl ⟨rfl, rfl, rfl, rfl, rfl⟩ rfl rfl rfl rfl rfl (by kernel_rfl) Tryd.func14 (by kernel_rfl)
    (of_decide_eq_true (by kernel_rfl)) (by unfold Func.isWrapper; first | (rw [if_pos (by decide +kernel)]; kernel_rfl) | (rw [if_neg (by decide +kernel)]; exact ⟨rfl, rfl⟩))
    (fun os started H enc _ F => by rw [OpenClaim.pre_eq_preRow]; exact lifted_FnOldFrom os started H enc F)
theorem plain_FnOldFrom (f : FuncId) (fn : Func) (hf : Tryd.pinned.checked.prog.funcNamed "loop.example/proxyframes/laws.FnOldFrom" = some f) (hfn : Tryd.pinned.checked.prog.funcs[f]? = some fn) :
    false = Tryd.pinned.checked.prog.looks [] ∧ ∀ (j : Nat) t, fn.params[j]? = some t → Tryd.pinned.checked.prog.wantsStandIn t = false := by
  obtain rfl : f = 14 := Option.some.inj ((show Tryd.prog.funcNamed "loop.example/proxyframes/laws.FnOldFrom" = some 14 by kernel_rfl).symm.trans hf) |>.symm
  obtain rfl : fn = Tryd.f14 := (Option.some.inj (Tryd.func14.symm.trans hfn)).symm
  refine ⟨by kernel_rfl, fun j t ht => ?_⟩
  rw [Tryd.params14] at ht
  obtain rfl : t = 33 := by simpa using Array.mem_of_getElem? ht
  exact (show Tryd.prog.wantsStandIn 33 = false by kernel_rfl)

/-- The statement. -/
theorem fnOldFrom_holds : Rows.FnOldFromCardSaid :=
  Claim7.holds_tied_plain_at .later [] _ _ _ _ over_FnOldFrom (fun _ h => by cases h) (by kernel_rfl) (fun _ h => by cases h) fnOldFrom_row_tie rfl ⟨rfl, rfl⟩ (by kernel_rfl) rfl plain_FnOldFrom (by kernel_rfl)
#print axioms fnOldFrom_holds
end Go.Proofs.YtjlgkepbflcefaaDoor
