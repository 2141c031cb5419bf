/- The statement FnAddressPart: the part of an address that its kind does not use is empty, and a port above 65535 is no port. No condition. -/
import Derived.Test.YtfikfihcjddgnaaDoorCard
import Derived.Test.YtfikfihcjddgnaaDoorRowA
import Derived.Test.YtfikfihcjddgnaaDoorAd
import Derived.Test.YtfikfihcjddgnaaDoorDrawA
import Derived.Deep.RegionWith
namespace Go.Proofs.YtfikfihcjddgnaaDoor
open Go.ChangeShapes Go.WideShapes Go.ChangeAt Go.RowKit
open Go.ChangeMaps (open_string shut_string)

theorem adV_mixed (a : Ad) (h : adV a = true) : adV ⟨a.kind, [1, 2, 3, 4], ⟨#[120]⟩, a.port⟩ = false := by
  obtain ⟨_, h | h⟩ := adV_true.1 h
  · rw [Bool.eq_false_iff]
    intro hc
    obtain ⟨_, hc | hc⟩ := adV_true.1 hc
    · exact absurd hc.2.2 (show ¬ (1 : Nat) = 0 by decide)
    · exact absurd (h.1.symm.trans hc.1) (by decide)
  · rw [Bool.eq_false_iff]
    intro hc
    obtain ⟨_, hc | hc⟩ := adV_true.1 hc
    · exact absurd (h.1.symm.trans hc.1) (by decide)
    · have := hc.2.2
      simp at this
theorem adV_above (a : Ad) : adV ⟨a.kind, a.quad, a.name, 65536⟩ = false := by
  rw [Bool.eq_false_iff]
  intro hc
  have := (adV_true.1 hc).1.2
  simp at this
set_option maxHeartbeats 2000000 in
theorem walk_FnAddressPart (a0 : Option Addr) (n0 c0 : Nat) (z0 : List Int) (w : World) (w0 : Rd w a0 n0 (z0.map (Value.int .u8)) ∧ n0 ≤ c0 ∧ c0 ≤ maxLen ∧ ∀ x ∈ z0, (Lit.int .u8 x).wf = true) (hM : EnvM w) :
    Calls Tryd.prog 8 #[.slice a0 n0 c0] w fun e w' => e = .returned (.bool true) ∧ Below w.heap.size w w' := by
  obtain ⟨hx, hc, _, hwf⟩ := w0
  have hv : ∀ z ∈ z0, 0 ≤ z ∧ z ≤ 255 := fun z hz => bounds_u8 (hwf z hz)
  clear hwf
  replace hv := Lib.hid hv
  have hm := hx.max
  by_cases hbig : n0 ≤ 1048576
  case neg =>
    go_enter Tryd.func8, Tryd.ntmps8
    go_wp2
    go_ret
    exact ⟨rfl, Below.refl _ _⟩
  go_enter Tryd.func8, Tryd.ntmps8
  go_wp2_with fail
  refine (drawAddressValid_any _ _ _ _ _ hx hc hv.out).mono ?_
  rintro e w1 ⟨a, A, n, c, rfl, hn, hs, ho, hB1⟩
  replace hM := hM.step hB1
  have hr1 := Rd.own ho
  have hs1 := hB1.size
  clear ho
  obtain ⟨r, hr⟩ : ∃ r, adV a = r := ⟨_, rfl⟩
  replace hr := Lib.hid hr
  go_wp2_with fail
  refine calls_gen fun wB hwB => ?_
  have k3 : wB.heap[w1.heap.size]? = some (.cells #[.int .i64 a.kind, .slice A n c, .string a.name, .int .i64 a.port] 31 (0, 0)) := by
    rw [hwB]
    exact heap_alloc_new w1 _
  have hb : Below w1.heap.size w1 wB := by rw [hwB]; go_grown
  have hsB : wB.heap.size = w1.heap.size + 1 := by rw [hwB]; simp
  clear hwB
  replace hM := hM.step hb
  replace hr1 := hr1.below hb
  have hBB := bstep hB1 hb
  clear hb
  refine (addressValid_impl a A n c _ hM hr1 (by omega) _ hr.out).mono ?_
  rintro e w2 ⟨rfl, hb2⟩
  have hB2 := bstep hBB hb2
  replace hM := hM.step hb2
  replace hr1 := hr1.below hb2
  replace k3 := (hb2.block _ (by omega)).trans k3
  have hs2 := hb2.size
  obtain ⟨c0', c1, c2, c3⟩ := box_cells k3
  clear hBB hb2 hB1
  go_wp2_with fail
  refine (addressValid_spec a A n c _ hr1 (by omega) _ hr.out).mono ?_
  rintro e w3 ⟨rfl, hb3⟩
  have hB3 := bstep hB2 hb3
  replace hM := hM.step hb3
  replace hr1 := hr1.below hb3
  replace k3 := (hb3.block _ (by omega)).trans k3
  have hs3 := hb3.size
  obtain ⟨c0', c1, c2, c3⟩ := box_cells k3
  clear hB2 hb3
  have hlt13 : w1.heap.size < w3.heap.size := by omega
  have hlt13a : w1.heap.size < w3.heap.size + 1 := by omega
  have hlt13b : w1.heap.size < w3.heap.size + 1 + 1 := by omega
  have hlt13c : w1.heap.size < w3.heap.size + 2 := by omega
  have hne13 : w1.heap.size ≠ w3.heap.size := by omega
  have hne13s : w1.heap.size ≠ w3.heap.size + 1 := by omega
  replace k3 := Lib.hid k3
  have hrr : (r != r) = false := by simp
  cases r
  · go_wp2_with fail
    go_ret
    exact ⟨rfl, hB3⟩
  go_wp2_with fail
  refine calls_gen fun wC hwC => ?_
  have k7 : wC.heap[w3.heap.size + 1 + 1]? = some (.cells #[.int .i64 a.kind, .slice A n c, .string a.name, .int .i64 65536] 31 (0, 0)) := by
    rw [hwC]
    exact heap_alloc_new3 w3 _ _ _
  have hf : Rd wC (some ⟨w3.heap.size + 1, 0, none⟩) 4 (ints [1, 2, 3, 4]) := by
    rw [hwC]
    have h := rd_lit (w3.alloc (.cells #[.int .i64 a.kind, .slice (some ⟨w3.heap.size + 1, 0, none⟩) 4 4, .string ⟨#[120]⟩, .int .i64 a.port] 31)) 3 #[.int .i64 1, .int .i64 2, .int .i64 3, .int .i64 4] 4 (by omega) rfl
    rw [World.size_alloc] at h
    exact h.below ((Below.refl _ _).alloc (Nat.le_refl _) _)
  have hb : Below w3.heap.size w3 wC := by rw [hwC]; go_grown
  have hsC : wC.heap.size = w3.heap.size + 1 + 1 + 1 := by rw [hwC]; simp
  clear hwC hlt13 hlt13a hlt13b hlt13c hne13 hne13s
  replace hM := hM.step hb
  replace hr1 := hr1.below hb
  have hBC := bstep hB3 hb
  have hw : w.heap.size ≤ w3.heap.size := by omega
  clear hb hB3
  refine (addressValid_impl ⟨a.kind, [1, 2, 3, 4], ⟨#[120]⟩, a.port⟩ _ 4 4 _ hM hf (by show (1 : Nat) ≤ _; omega) _ (adV_mixed a hr.out)).mono ?_
  rintro e w4 ⟨rfl, hb4⟩
  have hB4 := bstep hBC hb4
  replace hM := hM.step hb4
  replace hr1 := hr1.below hb4
  replace k7 := (hb4.block _ (by omega)).trans k7
  obtain ⟨d0, d1, d2, d3⟩ := box_cells k7
  clear hBC hb4 hf
  replace k7 := Lib.hid k7
  go_wp2_with fail
  refine (addressValid_impl ⟨a.kind, a.quad, a.name, 65536⟩ A n c _ hM hr1 (by show a.name.size ≤ _; omega) _ (adV_above a)).mono ?_
  rintro e w5 ⟨rfl, hb5⟩
  go_wp2_with fail
  go_ret
  exact ⟨rfl, bstep hB4 hb5⟩
/-- A world for the witness: what the variables' door leaves, and the pinned table. -/
noncomputable def laidWorld_FnAddressPart (os : Os) : World :=
  { World.doorLaid Tryd.prog 34 os with heap := (World.doorLaid Tryd.prog 34 os).heap.modify 1 fun
      | .cells _ t frozen => .cells (Go.Pinned.utf8FirstZ.map fun (z : Nat) => Value.int .u8 (z : Int)).toArray t frozen
      | o => o }
theorem laid_met_FnAddressPart (os : Os) : laidMet Tryd.prog Rows.fnAddressPartRow.laid ((laidWorld_FnAddressPart os).forCall (fun _ _ => 0) ⟨#[], #[.slice none 0 0], []⟩).memory :=
  laidMet_of_run' 8 (by kernel_rfl) (by kernel_rfl)
theorem reads_FnAddressPart (os : Os) {H : Type} (enc : TypeId × Value → H) : ∃ places, DataW.whole enc Tryd.prog ((laidWorld_FnAddressPart os).forCall (fun _ _ => 0) ⟨#[], #[.slice none 0 0], []⟩).memory Tryd.f8.params.toList Rows.fnAddressPartSpec.vars false (#[.slice none 0 0] : Array Value).toList 8 = some ([.nil], [], places) :=
  ⟨[], by kernel_rfl⟩
set_option maxRecDepth 100000 in
theorem lifted_FnAddressPart (os : Os) (started : os.Started) (H : Type) (enc : TypeId × Value → H) (F : Stop.Interp) :
    ReturnsInHanded {} Tryd.checked os 8 .any ((OpenSpec.ofChange Rows.fnAddressPartSpec).preRow enc Tryd.prog Tryd.f8 Rows.fnAddressPartRow.domain false Rows.fnAddressPartRow.laid) (((OpenSpec.ofChange Rows.fnAddressPartSpec).at F).post enc Tryd.prog Tryd.f8 false true false false) := by
  obtain ⟨places, hx⟩ := reads_FnAddressPart os enc
  refine returnsInHanded_of_row (C := Tryd.checked) (s := OpenSpec.ofChange Rows.fnAddressPartSpec) row_own started (by kernel_rfl) Tryd.func8
    (witness_row_at (enc := enc) (C := Tryd.checked) false (laidWorld_FnAddressPart os) #[.slice none 0 0] rfl (by kernel_rfl) (by kernel_rfl) (by kernel_rfl)
      (OpenSpec.preRow_of_cond 8 hx (by kernel_rfl) (fun k hk => by cases hk) (by kernel_rfl) (laid_met_FnAddressPart os))) ?_
  intro W base args ds gs before hval0 hW _ _ _ hL hsh _
  have hval : ∀ (j : Nat) t v, Tryd.f8.params[j]? = some t → args[j]? = some v → Value.okWide Tryd.prog W .any base t v := hval0
  have hW' := hW
  obtain ⟨p, q, hA0, hV, rfl, hfz, hnd⟩ := hW
  have hA : DataW.TrodAll enc Tryd.prog W 0 (fun _ => true) true Tryd.f8.params.toList args.toList ds p := hA0
  rw [Tryd.params8] at hA hval
  obtain ⟨v0, vs0, d0, ds0, p0, q0, hargs, rfl, rfl, h0, r0⟩ := trodAll_cons hA
  obtain ⟨rfl, rfl, rfl⟩ := trodAll_nil r0
  obtain rfl : args = #[v0] := by cases args; simp_all
  obtain ⟨rfl, rfl⟩ := trodVars_none hV
  have k0 := h0
  have lt0 : ∀ x ∈ p0, x.block < W.heap.size := by obtain ⟨m, hm⟩ := k0; exact DataW.trod_lt m _ _ _ hm
  obtain ⟨a0, n0, c0, rfl⟩ := okWide_slice Tryd.underlying23 (hval 0 23 v0 rfl rfl)
  obtain ⟨z0, w0⟩ := rd_open Tryd.underlying23 Tryd.underlying5 (by kernel_rfl) h0
  clear hA0 hval0
  have hM : EnvM W := envM_shaped hsh
  clear hL hsh
  refine (walk_FnAddressPart a0 n0 c0 z0 W w0 hM).mono fun e W' ⟨he, bel⟩ => ?_
  subst he
  exact ⟨_, rfl, _, _, _, [], _, [], hW', trodAll_mk1 (shut_bool Tryd.underlying4 _), (trodAll_cons_mk (Below.trod row_laidOut (by kernel_rfl) (of_decide_eq_true (by kernel_rfl)) k0 bel lt0) trodAll_mk0), rfl, bel.frame _, fun h => by cases h⟩

theorem over_FnAddressPart : Rows.FnAddressPartSaid :=
  OpenClaim.holds_of_cond 8 Tryd.f8 rfl rfl rfl rfl rfl rfl rfl ⟨rfl, rfl, rfl, rfl, rfl⟩ rfl rfl rfl rfl rfl (by kernel_rfl) Tryd.func8 (by kernel_rfl)
    (of_decide_eq_true (by kernel_rfl)) (by unfold Func.isWrapper; first | (rw [if_pos (by decide +kernel)]; kernel_rfl) | (rw [if_neg (by decide +kernel)]; exact ⟨rfl, rfl⟩))
    (fun os started H enc _ F => by rw [OpenClaim.pre_eq_preRow]; exact lifted_FnAddressPart os started H enc F)
theorem plain_FnAddressPart (f : FuncId) (fn : Func) (hf : Tryd.pinned.checked.prog.funcNamed "loop.example/proxyframes/laws.FnAddressPart" = some f) (hfn : Tryd.pinned.checked.prog.funcs[f]? = some fn) :
    false = Tryd.pinned.checked.prog.looks [] ∧ ∀ (j : Nat) t, fn.params[j]? = some t → Tryd.pinned.checked.prog.wantsStandIn t = false := by
  obtain rfl : f = 8 := Option.some.inj ((show Tryd.prog.funcNamed "loop.example/proxyframes/laws.FnAddressPart" = some 8 by kernel_rfl).symm.trans hf) |>.symm
  obtain rfl : fn = Tryd.f8 := (Option.some.inj (Tryd.func8.symm.trans hfn)).symm
  refine ⟨by kernel_rfl, fun j t ht => ?_⟩
  rw [Tryd.params8] at ht
  obtain rfl : t = 23 := by simpa using Array.mem_of_getElem? ht
  exact (show Tryd.prog.wantsStandIn 23 = false by kernel_rfl)

/-- The statement. -/
theorem fnAddressPart_holds : Rows.FnAddressPartCardSaid :=
  Claim7.holds_tied_plain_at .later [] _ _ _ _ over_FnAddressPart (fun _ h => by cases h) (by kernel_rfl) (fun _ h => by cases h) fnAddressPart_row_tie rfl ⟨rfl, rfl⟩ (by kernel_rfl) rfl plain_FnAddressPart (by kernel_rfl)
#print axioms fnAddressPart_holds
end Go.Proofs.YtfikfihcjddgnaaDoor
