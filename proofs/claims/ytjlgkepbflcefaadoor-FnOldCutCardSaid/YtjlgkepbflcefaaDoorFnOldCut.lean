/- The statement FnOldCut: bytes that end before a request does are no request. No condition. -/
import Derived.Test.YtjlgkepbflcefaaDoorCard
import Derived.Test.YtjlgkepbflcefaaDoorRowA
import Derived.Test.YtjlgkepbflcefaaDoorOB
import Derived.Test.YtjlgkepbflcefaaDoorDrawO
import Derived.Test.YtjlgkepbflcefaaDoorOF
namespace Go.Proofs.YtjlgkepbflcefaaDoor
open Go.ChangeShapes Go.WideShapes Go.ChangeAt Go.RowKit
open Go.ChangeMaps (open_string shut_string)

set_option maxRecDepth 20000 in
set_option maxHeartbeats 4000000 in
theorem walk_FnOldCut (a0 : Option Addr) (n0 c0 : Nat) (z0 : List Int) (a1 : Option Addr) (n1 c1 : Nat) (z1 : List Int) (w : World) (w0 : Rd w a0 n0 (z0.map (Value.int .u8)) ∧ n0 ≤ c0 ∧ c0 ≤ maxLen ∧ ∀ x ∈ z0, (Lit.int .u8 x).wf = true) (w1 : Rd w a1 n1 (z1.map (Value.int .u8)) ∧ n1 ≤ c1 ∧ c1 ≤ maxLen ∧ ∀ x ∈ z1, (Lit.int .u8 x).wf = true) (hM : EnvM w) :
    Calls Tryd.prog 11 #[.slice a0 n0 c0, .slice a1 n1 c1] w fun e w' => e = .returned (.bool true) ∧ Below w.heap.size w w' := by
  obtain ⟨hx, hc, _, hwf⟩ := w0
  have hv : ∀ z ∈ z0, 0 ≤ z ∧ z ≤ 255 := fun z hz => bounds_u8 (hwf z hz)
  clear hwf
  replace hv := Lib.hid hv
  have hm := hx.max
  have hm1 := w1.1.max
  clear w1
  by_cases hbig : n0 ≤ 1048576
  case neg =>
    have hd : decide (1048576 < (n0 : Int)) = true := by simp; omega
    go_enter Tryd.func11, Tryd.ntmps11
    go_wp2
    go_ret
    exact ⟨rfl, Below.refl _ _⟩
  have hd : decide (1048576 < (n0 : Int)) = false := by simp; omega
  by_cases hbig1 : n1 ≤ 1048576
  case neg =>
    have hd1 : decide (1048576 < (n1 : Int)) = true := by simp; omega
    go_enter Tryd.func11, Tryd.ntmps11
    go_wp2
    go_ret
    exact ⟨rfl, Below.refl _ _⟩
  have hd1 : decide (1048576 < (n1 : Int)) = false := by simp; omega
  go_enter Tryd.func11, Tryd.ntmps11
  go_wp2_with fail
  refine (drawOldBytes_any _ _ _ _ _ hx hc hv.out).mono ?_
  rintro e w1 ⟨x, A, n, c, rfl, ⟨hn, hnm, hus⟩, ho, hB1⟩
  replace hM := hM.step hB1
  have hr1 := Rd.own ho
  have hs1 := hB1.size
  have hcap := (own_cap ho).1
  clear ho
  obtain ⟨zs, b, hf⟩ : ∃ zs b, odW x = (zs, b) := ⟨_, _, rfl⟩
  replace hf := Lib.hid hf
  go_wp2_with fail
  refine calls_gen fun wB hwB => ?_
  have k3 : wB.heap[w1.heap.size]? = some (.cells #[.int .i64 x.cmd, .int .i64 x.to.kind, .slice A n c, .string x.to.name, .int .i64 x.to.port, .string x.user] 39 (0, 0)) := by
    rw [hwB]
    exact heap_alloc_new w1 _
  have hb : Below w1.heap.size w1 wB := by rw [hwB]; go_grown
  have hsB : wB.heap.size = w1.heap.size + 1 := by rw [hwB]; simp
  clear hwB
  replace hM := hM.step hb
  replace hr1 := hr1.below hb
  have hBB := bstep hB1 hb
  clear hb
  refine (oldBytes_impl x A n c _ hM hr1 hcap (by omega) (by omega) _ _ hf.out).mono ?_
  rintro e w2 ⟨A2, n2, c2, rfl, ho2, hb2⟩
  have hB2 := bstep hBB hb2
  replace hM := hM.step hb2
  replace hr1 := hr1.below hb2
  replace k3 := (hb2.block _ (by omega)).trans k3
  have hs2 := hb2.size
  obtain ⟨d0, d1, d2, d3, d4, d5⟩ := six_cells k3
  clear hBB hb2 hB1
  go_wp2_with fail
  refine (oldBytes_spec x A n c _ hr1 (by omega) (by omega) _ _ hf.out).mono ?_
  rintro e w3 ⟨A3, n3, c3, rfl, ho3, hb3⟩
  have hB3 := bstep hB2 hb3
  replace hM := hM.step hb3
  replace hr1 := hr1.below hb3
  replace k3 := (hb3.block _ (by omega)).trans k3
  have hs3 := hb3.size
  have hr2 := (Rd.own ho2).below hb3
  replace ho2 := own_below ho2 hb3
  have hr3 := Rd.own ho3
  have hbb : (b != b) = false := by simp
  have hbe : (b == b) = true := by simp
  clear hB2 hb3 ho3 d0 d1 d2 d3 d4 d5
  go_wp2_with fail
  refine (sameBytes_any _ _ _ _ _ _ _ _ _ hr2 hr3).mono ?_
  rintro e w4 ⟨rfl, hb4⟩
  rw [decide_eq_true rfl]
  have hB4 := bstep hB3 hb4
  replace hM := hM.step hb4
  replace hr1 := hr1.below hb4
  replace hr2 := hr2.below hb4
  replace hr3 := hr3.below hb4
  replace ho2 := own_below ho2 hb4
  replace k3 := (hb4.block _ (by omega)).trans k3
  have hs4 := hb4.size
  clear hB3 hb4
  cases b
  case false =>
    go_wp2_with fail
    refine (sameBytes_any _ _ _ _ _ _ _ _ _ hr2 hr3).mono ?_
    rintro e w5 ⟨rfl, hb5⟩
    rw [decide_eq_true rfl]
    go_wp2_with fail
    go_ret
    exact ⟨rfl, bstep hB4 hb5⟩
  case true =>
    obtain ⟨hav, rfl⟩ := odW_true hf.out
    have hl2 := hr2.ilen
    have hlen := odB_length hav
    have hsize := odB_size hav
    obtain ⟨d0, d1, d2, d3, d4, d5⟩ := six_cells k3
    replace hav := Lib.hid hav
    clear hf hr3
    have i1 : (n1 : Int) % (n2 : Int) = ((n1 % n2 : Nat) : Int) := by simp
    have hk : n1 % n2 < n2 := Nat.mod_lt n1 (by omega)
    generalize n1 % n2 = k at i1 hk
    have hO : odO ((odB x).take k) = (Od.none, 0, false) := odO_cut hav.out (by omega)
    have hcap2 := (own_cap ho2).1
    have hrk := hr2.take (k := k) (by omega)
    rw [ints, ← List.map_take] at hrk
    have hfl : Flat A2 k := by
      rcases own_flat ho2 with ⟨_, h⟩ | h
      · omega
      · exact .inr h
    have hn0 : ((n2 : Int) == 0) = false := by simp; omega
    have hn0' : ¬ (n2 : Int) = 0 := by omega
    have hkc : (k : Int) ≤ (c2 : Int) := by omega
    have hk0 : (0 : Int) ≤ (k : Int) := by omega
    have hn24 : n2 ≤ 100 := by omega
    clear hlen hl2 hsize d0 d1 d2 d3 d4 d5
    go_wp2_with fail
    refine (oldFrom_impl A2 k c2 ((odB x).take k) _ hM hrk hfl (by omega) (by omega) _ _ _ hO).mono ?_
    rintro e w5 ⟨A5, n5, c5, rfl, hn5, hs5, ho5, hb5⟩
    have hB5 := bstep hB4 hb5
    clear hO hfl hr2 ho2 hb5 hB4 ho5 hrk
    go_wp2_with fail
    go_ret
    exact ⟨rfl, hB5.alloc hB5.size _⟩

/-- A world for the witness: what the variables' door leaves, and the pinned table. -/
noncomputable def laidWorld_FnOldCut (os : Os) : World :=
  { World.doorLaid Tryd.prog 19 os with heap := (World.doorLaid Tryd.prog 19 os).heap.modify 1 fun
      | .cells _ t frozen => .cells (Go.Pinned.utf8FirstZ.map fun (z : Nat) => Value.int .u8 (z : Int)).toArray t frozen
      | o => o }
theorem laid_met_FnOldCut (os : Os) : laidMet Tryd.prog Rows.fnOldCutRow.laid ((laidWorld_FnOldCut os).forCall (fun _ _ => 0) ⟨#[], #[.slice none 0 0, .slice none 0 0], []⟩).memory :=
  laidMet_of_run' 8 (by kernel_rfl) (by kernel_rfl)
theorem reads_FnOldCut (os : Os) {H : Type} (enc : TypeId × Value → H) : ∃ places, DataW.whole enc Tryd.prog ((laidWorld_FnOldCut os).forCall (fun _ _ => 0) ⟨#[], #[.slice none 0 0, .slice none 0 0], []⟩).memory Tryd.f11.params.toList Rows.fnOldCutSpec.vars false (#[.slice none 0 0, .slice none 0 0] : Array Value).toList 8 = some ([.nil, .nil], [], places) :=
  ⟨[], by kernel_rfl⟩
set_option maxRecDepth 100000 in
theorem lifted_FnOldCut (os : Os) (started : os.Started) (H : Type) (enc : TypeId × Value → H) (F : Stop.Interp) :
    ReturnsInHanded {} Tryd.checked os 11 .any ((OpenSpec.ofChange Rows.fnOldCutSpec).preRow enc Tryd.prog Tryd.f11 Rows.fnOldCutRow.domain false Rows.fnOldCutRow.laid) (((OpenSpec.ofChange Rows.fnOldCutSpec).at F).post enc Tryd.prog Tryd.f11 false true false false) := by
  obtain ⟨places, hx⟩ := reads_FnOldCut os enc
  refine returnsInHanded_of_row (C := Tryd.checked) (s := OpenSpec.ofChange Rows.fnOldCutSpec) row_own started (by kernel_rfl) Tryd.func11
    (witness_row_at (enc := enc) (C := Tryd.checked) false (laidWorld_FnOldCut os) #[.slice none 0 0, .slice none 0 0] rfl (by kernel_rfl) (by kernel_rfl) (by kernel_rfl)
      (OpenSpec.preRow_of_cond 8 hx (by kernel_rfl) (fun k hk => by cases hk) (by kernel_rfl) (laid_met_FnOldCut os))) ?_
  intro W base args ds gs before hval0 hW _ _ _ hL hsh _
  have hval : ∀ (j : Nat) t v, Tryd.f11.params[j]? = some t → args[j]? = some v → Value.okWide Tryd.prog W .any base t v := hval0
  have hW' := hW
  obtain ⟨p, q, hA0, hV, rfl, hfz, hnd⟩ := hW
  have hA : DataW.TrodAll enc Tryd.prog W 0 (fun _ => true) true Tryd.f11.params.toList args.toList ds p := hA0
  rw [Tryd.params11] at hA hval
  obtain ⟨v0, vs0, d0, ds0, p0, q0, hargs, rfl, rfl, h0, r0⟩ := trodAll_cons hA
  obtain ⟨v1, vs1, d1, ds1, p1, q1, rfl, rfl, rfl, h1, r1⟩ := trodAll_cons r0
  obtain ⟨rfl, rfl, rfl⟩ := trodAll_nil r1
  obtain rfl : args = #[v0, v1] := by cases args; simp_all
  obtain ⟨rfl, rfl⟩ := trodVars_none hV
  have k0 := h0
  have lt0 : ∀ x ∈ p0, x.block < W.heap.size := by obtain ⟨m, hm⟩ := k0; exact DataW.trod_lt m _ _ _ hm
  obtain ⟨a0, n0, c0, rfl⟩ := okWide_slice Tryd.underlying33 (hval 0 33 v0 rfl rfl)
  obtain ⟨z0, w0⟩ := rd_open Tryd.underlying33 Tryd.underlying5 (by kernel_rfl) h0
  have k1 := h1
  have lt1 : ∀ x ∈ p1, x.block < W.heap.size := by obtain ⟨m, hm⟩ := k1; exact DataW.trod_lt m _ _ _ hm
  obtain ⟨a1, n1, c1, rfl⟩ := okWide_slice Tryd.underlying33 (hval 1 33 v1 rfl rfl)
  obtain ⟨z1, w1⟩ := rd_open Tryd.underlying33 Tryd.underlying5 (by kernel_rfl) h1
  clear hA0 hval0
  have hM : EnvM W := envM_shaped hsh
  clear hL hsh
  refine (walk_FnOldCut a0 n0 c0 z0 a1 n1 c1 z1 W w0 w1 hM).mono fun e W' ⟨he, bel⟩ => ?_
  subst he
  exact ⟨_, rfl, _, _, _, [], _, [], hW', trodAll_mk1 (shut_bool Tryd.underlying4 _), (trodAll_cons_mk (Below.trod row_laidOut (by kernel_rfl) (of_decide_eq_true (by kernel_rfl)) k0 bel lt0) (trodAll_cons_mk (Below.trod row_laidOut (by kernel_rfl) (of_decide_eq_true (by kernel_rfl)) k1 bel lt1) trodAll_mk0)), rfl, bel.frame _, fun h => by cases h⟩

theorem over_FnOldCut : Rows.FnOldCutSaid :=
  OpenClaim.holds_of_cond 11 Tryd.f11 rfl rfl rfl rfl rfl rfl rfl ⟨rfl, rfl, rfl, rfl, rfl⟩ rfl rfl rfl rfl rfl (by kernel_rfl) Tryd.func11 (by kernel_rfl)
    (of_decide_eq_true (by kernel_rfl)) (by unfold Func.isWrapper; first | (rw [if_pos (by decide +kernel)]; kernel_rfl) | (rw [if_neg (by decide +kernel)]; exact ⟨rfl, rfl⟩))
    (fun os started H enc _ F => by rw [OpenClaim.pre_eq_preRow]; exact lifted_FnOldCut os started H enc F)
theorem plain_FnOldCut (f : FuncId) (fn : Func) (hf : Tryd.pinned.checked.prog.funcNamed "loop.example/proxyframes/laws.FnOldCut" = some f) (hfn : Tryd.pinned.checked.prog.funcs[f]? = some fn) :
    false = Tryd.pinned.checked.prog.looks [] ∧ ∀ (j : Nat) t, fn.params[j]? = some t → Tryd.pinned.checked.prog.wantsStandIn t = false := by
  obtain rfl : f = 11 := Option.some.inj ((show Tryd.prog.funcNamed "loop.example/proxyframes/laws.FnOldCut" = some 11 by kernel_rfl).symm.trans hf) |>.symm
  obtain rfl : fn = Tryd.f11 := (Option.some.inj (Tryd.func11.symm.trans hfn)).symm
  refine ⟨by kernel_rfl, fun j t ht => ?_⟩
  rw [Tryd.params11] at ht
  obtain rfl : t = 33 := by simpa using Array.mem_of_getElem? ht
  exact (show Tryd.prog.wantsStandIn 33 = false by kernel_rfl)

/-- The statement. -/
theorem fnOldCut_holds : Rows.FnOldCutCardSaid :=
  Claim7.holds_tied_plain_at .later [] _ _ _ _ over_FnOldCut (fun _ h => by cases h) (by kernel_rfl) (fun _ h => by cases h) fnOldCut_row_tie rfl ⟨rfl, rfl⟩ (by kernel_rfl) rfl plain_FnOldCut (by kernel_rfl)
#print axioms fnOldCut_holds
end Go.Proofs.YtjlgkepbflcefaaDoor
