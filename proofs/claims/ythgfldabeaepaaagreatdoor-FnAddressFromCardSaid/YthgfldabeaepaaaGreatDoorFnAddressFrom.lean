/- The statement FnAddressFrom: an address has its text. No condition. -/
import Derived.Test.YthgfldabeaepaaaGreatDoorCard
import Derived.Test.YthgfldabeaepaaaGreatDoorAdI
import Derived.Test.YthgfldabeaepaaaGreatDoorAdF
import Derived.Test.YthgfldabeaepaaaGreatDoorDrawY
import Derived.Test.YthgfldabeaepaaaGreatDoorSame
namespace Go.Proofs.YthgfldabeaepaaaGreatDoor
open Go.ChangeShapes Go.WideShapes Go.ChangeAt Go.RowKit
open Go.ChangeMaps (open_string shut_string)
set_option maxRecDepth 20000 in
set_option maxHeartbeats 2000000 in
theorem walk_FnAddressFrom (a0 : Option Addr) (n0 c0 : Nat) (z0 : List Int) (w : World) (w0 : Rd w a0 n0 (z0.map (Value.int .u8)) ∧ n0 ≤ c0 ∧ c0 ≤ maxLen ∧ ∀ x ∈ z0, (Lit.int .u8 x).wf = true) (hV : Env3 w) :
    Calls Tryz.prog 3 #[.slice a0 n0 c0] w fun e w' => e = .returned (.bool true) ∧ Below w.heap.size w w' := by
  obtain ⟨hx, hc, _, hwf⟩ := w0
  have hv : ∀ z ∈ z0, 0 ≤ z ∧ z ≤ 255 := fun z hz => bounds_u8 (hwf z hz)
  clear hwf
  replace hv := Lib.hid hv
  have hm := hx.max
  by_cases hbig : n0 ≤ 1048576
  case neg =>
    go_enter Tryz.func3, Tryz.ntmps3
    go_wp2
    go_ret
    exact ⟨rfl, Below.refl _ _⟩
  go_enter Tryz.func3, Tryz.ntmps3
  go_wp2_with fail
  refine (drawAddressFrom_any _ _ _ _ _ hx hc hv.out).mono ?_
  rintro e w1 ⟨⟨s, rfl, hs⟩, hB1⟩
  replace hV := hV.step hB1
  obtain ⟨a, b, hf⟩ : ∃ a b, adF (lets s) = (a, b) := ⟨_, _, rfl⟩
  replace hf := Lib.hid hf
  go_wp2_with fail
  refine (addressFrom_impl s _ (by omega) hV a b hf.out).mono ?_
  rintro e w2 ⟨A, n, c, rfl, hn, hsz, ho2, hb2⟩
  have hB2 := bstep hB1 hb2
  replace hV := hV.step hb2
  have hr2 := Rd.own ho2
  clear hb2 hB1 ho2
  go_wp2_with fail
  refine calls_gen fun wB hwB => ?_
  have k3 : wB.heap[w2.heap.size]? = some (.cells #[.int .i64 a.kind, .slice A n c, .string a.name, .int .i64 a.port] 26 (0, 0)) := by
    rw [hwB]
    exact heap_alloc_new w2 _
  have hb : Below w2.heap.size w2 wB := by rw [hwB]; go_grown
  have hsB : wB.heap.size = w2.heap.size + 1 := by rw [hwB]; simp
  clear hwB
  replace hV := hV.step hb
  replace hr2 := hr2.below hb
  have hBB := bstep hB2 hb
  clear hb hB2
  refine (addressFrom_spec s _ (by omega) a b hf.out).mono ?_
  rintro e w3 ⟨A3, n3, c3, rfl, hn3, hsz3, ho3, hb3⟩
  have hB3 := bstep hBB hb3
  replace hV := hV.step hb3
  have hr3 := Rd.own ho3
  replace hr2 := hr2.below hb3
  replace k3 := (hb3.block _ (by omega)).trans k3
  have hs3 := hb3.size
  have hlt3 : w2.heap.size < w3.heap.size := by omega
  clear ho3 hb3 hBB
  have hbb : (b != b) = false := by simp
  have hbe : (b == b) = true := by simp
  obtain ⟨d0, d1, d2, d3⟩ := box_cells k3
  replace k3 := Lib.hid k3
  go_wp2_with fail
  refine calls_gen fun wC hwC => ?_
  have hb : Below w3.heap.size w3 wC := by rw [hwC]; go_grown
  have k4 : wC.heap[w3.heap.size]? = some (.cells #[.int .i64 a.kind, .slice A3 n3 c3, .string a.name, .int .i64 a.port] 26 (0, 0)) := by
    rw [hwC]
    exact heap_alloc_new w3 _
  have hsC : wC.heap.size = w3.heap.size + 1 := by rw [hwC]; simp
  clear hwC
  replace hV := hV.step hb
  replace hr2 := hr2.below hb
  replace hr3 := hr3.below hb
  have hBC := bstep hB3 hb
  replace k3 := (hb.block _ (by omega)).trans k3.out
  clear hb hB3 d0 d1 d2 d3
  refine (sameAddress_same a A n c A3 n3 c3 _ hr2 hr3).mono ?_
  rintro e w4 ⟨rfl, hb4⟩
  have hB4 := bstep hBC hb4
  replace hV := hV.step hb4
  replace hr2 := hr2.below hb4
  replace hr3 := hr3.below hb4
  replace k3 := (hb4.block _ (by omega)).trans k3
  replace k4 := (hb4.block _ (by omega)).trans k4
  have hs4 := hb4.size
  have hl3 : w2.heap.size < w4.heap.size := by omega
  have hl4 : w3.heap.size < w4.heap.size := by omega
  clear hb4 hBC
  cases b
  case false =>
    obtain ⟨d0, d1, d2, d3⟩ := box_cells k3
    obtain ⟨e0, e1, e2, e3⟩ := box_cells k4
    replace k3 := Lib.hid k3
    replace k4 := Lib.hid k4
    go_wp2_with fail
    refine (sameAddress_same a A n c A3 n3 c3 _ hr2 hr3).mono ?_
    rintro e w5 ⟨rfl, hb5⟩
    go_wp2_with fail
    go_ret
    exact ⟨rfl, bstep hB4 hb5⟩
  case true =>
    obtain ⟨hav, hat⟩ := adF_true hf.out
    have hs1 : txt (adS a) = s := by
      have e1 : adS a = adT a := if_pos hav
      exact (congrArg txt (e1.trans hat)).trans (txt_lets s)
    obtain ⟨d0, d1, d2, d3⟩ := box_cells k3
    replace hav := Lib.hid hav
    replace hat := Lib.hid hat
    replace k3 := Lib.hid k3
    clear hr3 k4
    go_wp2_with fail
    refine (addressValid_impl a A n c _ hV.1 hr2 (by omega) _ hav.out).mono ?_
    rintro e w5 ⟨rfl, hb5⟩
    have hB5 := bstep hB4 hb5
    replace hV := hV.step hb5
    replace hr2 := hr2.below hb5
    replace k3 := (hb5.block _ (by omega)).trans k3.out
    clear hb5 hB4 d0 d1 d2 d3
    obtain ⟨d0, d1, d2, d3⟩ := box_cells k3
    replace k3 := Lib.hid k3
    replace hs1 := Lib.hid hs1
    go_wp2_with fail
    refine (addressText_impl a A n c _ hr2 (by omega) hV.1 hV.2.1).mono ?_
    rw [hs1.out]
    rintro e w6 ⟨rfl, hb6⟩
    have hB6 := bstep hB5 hb6
    go_wp2_with fail
    go_ret
    exact ⟨rfl, hB6⟩

/-- A world for the witness: what the variables' door leaves, and the pinned table. -/
noncomputable def laidWorld_FnAddressFrom (os : Os) : World :=
  { World.doorLaid Tryz.prog 72 os with heap := (World.doorLaid Tryz.prog 72 os).heap.modify 4 fun
      | .cells _ t frozen => .cells (Go.Pinned.utf8FirstZ.map fun (z : Nat) => Value.int .u8 (z : Int)).toArray t frozen
      | o => o }
theorem laid_met_FnAddressFrom (os : Os) : laidMet Tryz.prog Rows.fnAddressFromRow.laid ((laidWorld_FnAddressFrom os).forCall (fun _ _ => 0) ⟨#[], #[.slice none 0 0], []⟩).memory :=
  laidMet_of_run' 8 (by kernel_rfl) (by kernel_rfl)
theorem reads_FnAddressFrom (os : Os) {H : Type} (enc : TypeId × Value → H) : ∃ places, DataW.whole enc Tryz.prog ((laidWorld_FnAddressFrom os).forCall (fun _ _ => 0) ⟨#[], #[.slice none 0 0], []⟩).memory Tryz.f3.params.toList Rows.fnAddressFromSpec.vars false (#[.slice none 0 0] : Array Value).toList 8 = some ([.nil], [], places) :=
  ⟨[], by kernel_rfl⟩
set_option maxRecDepth 100000 in
theorem lifted_FnAddressFrom (os : Os) (started : os.Started) (H : Type) (enc : TypeId × Value → H) (F : Stop.Interp) :
    ReturnsInHanded {} Tryz.checked os 3 .any ((OpenSpec.ofChange Rows.fnAddressFromSpec).preRow enc Tryz.prog Tryz.f3 Rows.fnAddressFromRow.domain false Rows.fnAddressFromRow.laid) (((OpenSpec.ofChange Rows.fnAddressFromSpec).at F).post enc Tryz.prog Tryz.f3 false true false false) := by
  obtain ⟨places, hx⟩ := reads_FnAddressFrom os enc
  refine returnsInHanded_of_row (C := Tryz.checked) (s := OpenSpec.ofChange Rows.fnAddressFromSpec) row_own started (by kernel_rfl) Tryz.func3
    (witness_row_at (enc := enc) (C := Tryz.checked) false (laidWorld_FnAddressFrom os) #[.slice none 0 0] rfl (by kernel_rfl) (by kernel_rfl) (by kernel_rfl)
      (OpenSpec.preRow_of_cond 8 hx (by kernel_rfl) (fun k hk => by cases hk) (by kernel_rfl) (laid_met_FnAddressFrom os))) ?_
  intro W base args ds gs before hval0 hW _ _ _ hL hsh _
  have hval : ∀ (j : Nat) t v, Tryz.f3.params[j]? = some t → args[j]? = some v → Value.okWide Tryz.prog W .any base t v := hval0
  have hW' := hW
  obtain ⟨p, q, hA0, hV, rfl, hfz, hnd⟩ := hW
  have hA : DataW.TrodAll enc Tryz.prog W 0 (fun _ => true) true Tryz.f3.params.toList args.toList ds p := hA0
  rw [Tryz.params3] at hA hval
  obtain ⟨v0, vs0, d0, ds0, p0, q0, hargs, rfl, rfl, h0, r0⟩ := trodAll_cons hA
  obtain ⟨rfl, rfl, rfl⟩ := trodAll_nil r0
  obtain rfl : args = #[v0] := by cases args; simp_all
  obtain ⟨rfl, rfl⟩ := trodVars_none hV
  have k0 := h0
  have lt0 : ∀ x ∈ p0, x.block < W.heap.size := by obtain ⟨m, hm⟩ := k0; exact DataW.trod_lt m _ _ _ hm
  obtain ⟨a0, n0, c0, rfl⟩ := okWide_slice Tryz.underlying22 (hval 0 22 v0 rfl rfl)
  obtain ⟨z0, w0⟩ := rd_open Tryz.underlying22 Tryz.underlying5 (by kernel_rfl) h0
  clear hA0 hval0
  have hM : EnvM W := envM_shaped hsh
  have hP : EnvP W := envP_laid (hL.filter fun x => x.1 == "internal/strconv.uint64pow10")
  have hE : EnvE W := envE_laid (hL.filter fun x => x.1 == "strconv.ErrSyntax") (hL.filter fun x => x.1 == "strconv.ErrRange")
  clear hL hsh
  refine (walk_FnAddressFrom a0 n0 c0 z0 W w0 ⟨hM, hP, hE⟩).mono fun e W' ⟨he, bel⟩ => ?_
  subst he
  exact ⟨_, rfl, _, _, _, [], _, [], hW', trodAll_mk1 (shut_bool Tryz.underlying4 _), (trodAll_cons_mk (Below.trod row_laidOut (by kernel_rfl) (of_decide_eq_true (by kernel_rfl)) k0 bel lt0) trodAll_mk0), rfl, bel.frame _, fun h => by cases h⟩

theorem over_FnAddressFrom : Rows.FnAddressFromSaid :=
  OpenClaim.holds_of_cond 3 Tryz.f3 rfl rfl rfl rfl rfl rfl rfl ⟨rfl, rfl, rfl, rfl, rfl⟩ rfl rfl rfl rfl rfl (by kernel_rfl) Tryz.func3 (by kernel_rfl)
    (of_decide_eq_true (by kernel_rfl)) (by unfold Func.isWrapper; first | (rw [if_pos (by decide +kernel)]; kernel_rfl) | (rw [if_neg (by decide +kernel)]; exact ⟨rfl, rfl⟩))
    (fun os started H enc _ F => by rw [OpenClaim.pre_eq_preRow]; exact lifted_FnAddressFrom os started H enc F)
theorem plain_FnAddressFrom (f : FuncId) (fn : Func) (hf : Tryz.pinned.checked.prog.funcNamed "loop.example/proxyframes/laws.FnAddressFrom" = some f) (hfn : Tryz.pinned.checked.prog.funcs[f]? = some fn) :
    true = Tryz.pinned.checked.prog.looks [] ∧ ∀ (j : Nat) t, fn.params[j]? = some t → Tryz.pinned.checked.prog.wantsStandIn t = false := by
  obtain rfl : f = 3 := Option.some.inj ((show Tryz.prog.funcNamed "loop.example/proxyframes/laws.FnAddressFrom" = some 3 by kernel_rfl).symm.trans hf) |>.symm
  obtain rfl : fn = Tryz.f3 := (Option.some.inj (Tryz.func3.symm.trans hfn)).symm
  refine ⟨by kernel_rfl, fun j t ht => ?_⟩
  rw [Tryz.params3] at ht
  obtain rfl : t = 22 := by simpa using Array.mem_of_getElem? ht
  exact (show Tryz.prog.wantsStandIn 22 = false by kernel_rfl)

/-- The statement. -/
theorem fnAddressFrom_holds : Rows.FnAddressFromCardSaid :=
  Claim7.holds_tied_plain_at .later [] _ _ _ _ over_FnAddressFrom (fun _ h => by cases h) (by kernel_rfl) (fun _ h => by cases h) fnAddressFrom_row_tie rfl ⟨rfl, rfl⟩ (by kernel_rfl) rfl plain_FnAddressFrom (by kernel_rfl)
#print axioms fnAddressFrom_holds
end Go.Proofs.YthgfldabeaepaaaGreatDoor
