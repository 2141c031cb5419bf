/- The statement FnOld: a request's bytes give this request. No condition. -/
import Derived.Test.YtjlgkepbflcefaaDoorCard
import Derived.Test.YtjlgkepbflcefaaDoorRowA
import Derived.Test.YtjlgkepbflcefaaDoorOB
import Derived.Test.YtjlgkepbflcefaaDoorDrawO
import Derived.Test.YtjlgkepbflcefaaDoorOF
namespace Go.Proofs.YtjlgkepbflcefaaDoor
open Go.ChangeShapes Go.WideShapes Go.ChangeAt Go.RowKit
open Go.ChangeMaps (open_string shut_string)

set_option maxRecDepth 20000 in
set_option maxHeartbeats 4000000 in
theorem walk_FnOld (a0 : Option Addr) (n0 c0 : Nat) (z0 : List Int) (w : World) (w0 : Rd w a0 n0 (z0.map (Value.int .u8)) ∧ n0 ≤ c0 ∧ c0 ≤ maxLen ∧ ∀ x ∈ z0, (Lit.int .u8 x).wf = true) (hM : EnvM w) :
    Calls Tryd.prog 12 #[.slice a0 n0 c0] w fun e w' => e = .returned (.bool true) ∧ Below w.heap.size w w' := by
  obtain ⟨hx, hc, _, hwf⟩ := w0
  have hv : ∀ z ∈ z0, 0 ≤ z ∧ z ≤ 255 := fun z hz => bounds_u8 (hwf z hz)
  clear hwf
  replace hv := Lib.hid hv
  have hm := hx.max
  by_cases hbig : n0 ≤ 1048576
  case neg =>
    go_enter Tryd.func12, Tryd.ntmps12
    go_wp2
    go_ret
    exact ⟨rfl, Below.refl _ _⟩
  go_enter Tryd.func12, Tryd.ntmps12
  go_wp2_with fail
  refine (drawOldBytes_any _ _ _ _ _ hx hc hv.out).mono ?_
  rintro e w1 ⟨x, A, n, c, rfl, ⟨hn, hnm, hus⟩, ho, hB1⟩
  replace hM := hM.step hB1
  have hr1 := Rd.own ho
  have hs1 := hB1.size
  have hcap := (own_cap ho).1
  clear ho
  obtain ⟨zs, b, hf⟩ : ∃ zs b, odW x = (zs, b) := ⟨_, _, rfl⟩
  replace hf := Lib.hid hf
  go_wp2_with fail
  refine calls_gen fun wB hwB => ?_
  have k3 : wB.heap[w1.heap.size]? = some (.cells #[.int .i64 x.cmd, .int .i64 x.to.kind, .slice A n c, .string x.to.name, .int .i64 x.to.port, .string x.user] 39 (0, 0)) := by
    rw [hwB]
    exact heap_alloc_new w1 _
  have hb : Below w1.heap.size w1 wB := by rw [hwB]; go_grown
  have hsB : wB.heap.size = w1.heap.size + 1 := by rw [hwB]; simp
  clear hwB
  replace hM := hM.step hb
  replace hr1 := hr1.below hb
  have hBB := bstep hB1 hb
  clear hb
  refine (oldBytes_impl x A n c _ hM hr1 hcap (by omega) (by omega) _ _ hf.out).mono ?_
  rintro e w2 ⟨A2, n2, c2, rfl, ho2, hb2⟩
  have hB2 := bstep hBB hb2
  replace hM := hM.step hb2
  replace hr1 := hr1.below hb2
  replace k3 := (hb2.block _ (by omega)).trans k3
  have hs2 := hb2.size
  obtain ⟨d0, d1, d2, d3, d4, d5⟩ := six_cells k3
  clear hBB hb2 hB1
  go_wp2_with fail
  refine (oldBytes_spec x A n c _ hr1 (by omega) (by omega) _ _ hf.out).mono ?_
  rintro e w3 ⟨A3, n3, c3, rfl, ho3, hb3⟩
  have hB3 := bstep hB2 hb3
  replace hM := hM.step hb3
  replace hr1 := hr1.below hb3
  replace k3 := (hb3.block _ (by omega)).trans k3
  have hs3 := hb3.size
  have hr2 := (Rd.own ho2).below hb3
  replace ho2 := own_below ho2 hb3
  have hr3 := Rd.own ho3
  have hbb : (b != b) = false := by simp
  have hbe : (b == b) = true := by simp
  clear hB2 hb3 ho3 d0 d1 d2 d3 d4 d5
  go_wp2_with fail
  refine (sameBytes_any _ _ _ _ _ _ _ _ _ hr2 hr3).mono ?_
  rintro e w4 ⟨rfl, hb4⟩
  rw [decide_eq_true rfl]
  have hB4 := bstep hB3 hb4
  replace hM := hM.step hb4
  replace hr1 := hr1.below hb4
  replace hr2 := hr2.below hb4
  replace hr3 := hr3.below hb4
  replace ho2 := own_below ho2 hb4
  replace k3 := (hb4.block _ (by omega)).trans k3
  have hs4 := hb4.size
  clear hB3 hb4
  cases b
  case false =>
    go_wp2_with fail
    refine (sameBytes_any _ _ _ _ _ _ _ _ _ hr2 hr3).mono ?_
    rintro e w5 ⟨rfl, hb5⟩
    rw [decide_eq_true rfl]
    go_wp2_with fail
    go_ret
    exact ⟨rfl, bstep hB4 hb5⟩
  case true =>
    obtain ⟨hav, rfl⟩ := odW_true hf.out
    have hl2 := hr2.ilen
    have hlen := odB_length hav
    have hsize := odB_size hav
    obtain ⟨d0, d1, d2, d3, d4, d5⟩ := six_cells k3
    replace hav := Lib.hid hav
    clear hf hr3
    have hO : odO (odB x) = (x, n2, true) := by
      have h := odO_bytes hav.out [] (by simpa using odB_bv hav.out)
      rw [List.append_nil, hl2] at h
      exact h
    have hfl := own_flat ho2
    have hcap2 := (own_cap ho2).1
    clear hlen
    go_wp2_with fail
    refine (oldFrom_impl A2 n2 c2 (odB x) _ hM hr2 hfl hcap2 (by omega) _ _ _ hO).mono ?_
    rintro e w5 ⟨A5, n5, c5, rfl, hn5, hs5, ho5, hb5⟩
    have hB5 := bstep hB4 hb5
    have hr5 := Rd.own ho5
    replace hr1 := hr1.below hb5
    replace k3 := (hb5.block _ (by omega)).trans k3
    have hz5 := hb5.size
    have hlt : w1.heap.size < w5.heap.size := by omega
    clear d0 d1 d2 d3 d4 d5
    obtain ⟨d0, d1, d2, d3, d4, d5⟩ := six_cells k3
    replace k3 := Lib.hid k3
    clear hO hfl hr2 ho2 hb5 hB4 ho5 hl2
    go_wp2_with fail
    refine calls_gen fun wC hwC => ?_
    have hb6 : Below w5.heap.size w5 wC := by rw [hwC]; go_grown
    clear hwC
    refine (sameOld_same x A5 n5 c5 A n c _ (hr5.below hb6) (hr1.below hb6)).mono ?_
    rintro e w7 ⟨rfl, hb7⟩
    go_wp2_with fail
    go_ret
    exact ⟨rfl, bstep (bstep hB5 hb6) hb7⟩

/-- A world for the witness: what the variables' door leaves, and the pinned table. -/
noncomputable def laidWorld_FnOld (os : Os) : World :=
  { World.doorLaid Tryd.prog 19 os with heap := (World.doorLaid Tryd.prog 19 os).heap.modify 1 fun
      | .cells _ t frozen => .cells (Go.Pinned.utf8FirstZ.map fun (z : Nat) => Value.int .u8 (z : Int)).toArray t frozen
      | o => o }
theorem laid_met_FnOld (os : Os) : laidMet Tryd.prog Rows.fnOldRow.laid ((laidWorld_FnOld os).forCall (fun _ _ => 0) ⟨#[], #[.slice none 0 0], []⟩).memory :=
  laidMet_of_run' 8 (by kernel_rfl) (by kernel_rfl)
theorem reads_FnOld (os : Os) {H : Type} (enc : TypeId × Value → H) : ∃ places, DataW.whole enc Tryd.prog ((laidWorld_FnOld os).forCall (fun _ _ => 0) ⟨#[], #[.slice none 0 0], []⟩).memory Tryd.f12.params.toList Rows.fnOldSpec.vars false (#[.slice none 0 0] : Array Value).toList 8 = some ([.nil], [], places) :=
  ⟨[], by kernel_rfl⟩
set_option maxRecDepth 100000 in
theorem lifted_FnOld (os : Os) (started : os.Started) (H : Type) (enc : TypeId × Value → H) (F : Stop.Interp) :
    ReturnsInHanded {} Tryd.checked os 12 .any ((OpenSpec.ofChange Rows.fnOldSpec).preRow enc Tryd.prog Tryd.f12 Rows.fnOldRow.domain false Rows.fnOldRow.laid) (((OpenSpec.ofChange Rows.fnOldSpec).at F).post enc Tryd.prog Tryd.f12 false true false false) := by
  obtain ⟨places, hx⟩ := reads_FnOld os enc
  refine returnsInHanded_of_row (C := Tryd.checked) (s := OpenSpec.ofChange Rows.fnOldSpec) row_own started (by kernel_rfl) Tryd.func12
    (witness_row_at (enc := enc) (C := Tryd.checked) false (laidWorld_FnOld os) #[.slice none 0 0] rfl (by kernel_rfl) (by kernel_rfl) (by kernel_rfl)
      (OpenSpec.preRow_of_cond 8 hx (by kernel_rfl) (fun k hk => by cases hk) (by kernel_rfl) (laid_met_FnOld os))) ?_
  intro W base args ds gs before hval0 hW _ _ _ hL hsh _
  have hval : ∀ (j : Nat) t v, Tryd.f12.params[j]? = some t → args[j]? = some v → Value.okWide Tryd.prog W .any base t v := hval0
  have hW' := hW
  obtain ⟨p, q, hA0, hV, rfl, hfz, hnd⟩ := hW
  have hA : DataW.TrodAll enc Tryd.prog W 0 (fun _ => true) true Tryd.f12.params.toList args.toList ds p := hA0
  rw [Tryd.params12] at hA hval
  obtain ⟨v0, vs0, d0, ds0, p0, q0, hargs, rfl, rfl, h0, r0⟩ := trodAll_cons hA
  obtain ⟨rfl, rfl, rfl⟩ := trodAll_nil r0
  obtain rfl : args = #[v0] := by cases args; simp_all
  obtain ⟨rfl, rfl⟩ := trodVars_none hV
  have k0 := h0
  have lt0 : ∀ x ∈ p0, x.block < W.heap.size := by obtain ⟨m, hm⟩ := k0; exact DataW.trod_lt m _ _ _ hm
  obtain ⟨a0, n0, c0, rfl⟩ := okWide_slice Tryd.underlying33 (hval 0 33 v0 rfl rfl)
  obtain ⟨z0, w0⟩ := rd_open Tryd.underlying33 Tryd.underlying5 (by kernel_rfl) h0
  clear hA0 hval0
  have hM : EnvM W := envM_shaped hsh
  clear hL hsh
  refine (walk_FnOld a0 n0 c0 z0 W w0 hM).mono fun e W' ⟨he, bel⟩ => ?_
  subst he
  exact ⟨_, rfl, _, _, _, [], _, [], hW', trodAll_mk1 (shut_bool Tryd.underlying4 _), (trodAll_cons_mk (Below.trod row_laidOut (by kernel_rfl) (of_decide_eq_true (by kernel_rfl)) k0 bel lt0) trodAll_mk0), rfl, bel.frame _, fun h => by cases h⟩

theorem over_FnOld : Rows.FnOldSaid :=
  OpenClaim.holds_of_cond 12 Tryd.f12 rfl rfl rfl rfl rfl rfl rfl ⟨rfl, rfl, rfl, rfl, rfl⟩ rfl rfl rfl rfl rfl (by kernel_rfl) Tryd.func12 (by kernel_rfl)
    (of_decide_eq_true (by kernel_rfl)) (by unfold Func.isWrapper; first | (rw [if_pos (by decide +kernel)]; kernel_rfl) | (rw [if_neg (by decide +kernel)]; exact ⟨rfl, rfl⟩))
    (fun os started H enc _ F => by rw [OpenClaim.pre_eq_preRow]; exact lifted_FnOld os started H enc F)
theorem plain_FnOld (f : FuncId) (fn : Func) (hf : Tryd.pinned.checked.prog.funcNamed "loop.example/proxyframes/laws.FnOld" = some f) (hfn : Tryd.pinned.checked.prog.funcs[f]? = some fn) :
    false = Tryd.pinned.checked.prog.looks [] ∧ ∀ (j : Nat) t, fn.params[j]? = some t → Tryd.pinned.checked.prog.wantsStandIn t = false := by
  obtain rfl : f = 12 := Option.some.inj ((show Tryd.prog.funcNamed "loop.example/proxyframes/laws.FnOld" = some 12 by kernel_rfl).symm.trans hf) |>.symm
  obtain rfl : fn = Tryd.f12 := (Option.some.inj (Tryd.func12.symm.trans hfn)).symm
  refine ⟨by kernel_rfl, fun j t ht => ?_⟩
  rw [Tryd.params12] at ht
  obtain rfl : t = 33 := by simpa using Array.mem_of_getElem? ht
  exact (show Tryd.prog.wantsStandIn 33 = false by kernel_rfl)

/-- The statement. -/
theorem fnOld_holds : Rows.FnOldCardSaid :=
  Claim7.holds_tied_plain_at .later [] _ _ _ _ over_FnOld (fun _ h => by cases h) (by kernel_rfl) (fun _ h => by cases h) fnOld_row_tie rfl ⟨rfl, rfl⟩ (by kernel_rfl) rfl plain_FnOld (by kernel_rfl)
#print axioms fnOld_holds
end Go.Proofs.YtjlgkepbflcefaaDoor
