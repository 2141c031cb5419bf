/- The statement FnAddressFromNot: an address has one port. No condition. -/
import Derived.Test.YthgfldabeaepaaaDoorCard
import Derived.Test.YthgfldabeaepaaaDoorAdI
import Derived.Test.YthgfldabeaepaaaDoorAdF
import Derived.Test.YthgfldabeaepaaaDoorDrawY
import Derived.Test.YthgfldabeaepaaaDoorSame
namespace Go.Proofs.YthgfldabeaepaaaDoor
open Go.ChangeShapes Go.WideShapes Go.ChangeAt Go.RowKit
open Go.ChangeMaps (open_string shut_string)
set_option maxRecDepth 20000 in
set_option maxHeartbeats 2000000 in
theorem walk_FnAddressFromNot (a0 : Option Addr) (n0 c0 : Nat) (z0 : List Int) (w : World) (w0 : Rd w a0 n0 (z0.map (Value.int .u8)) ∧ n0 ≤ c0 ∧ c0 ≤ maxLen ∧ ∀ x ∈ z0, (Lit.int .u8 x).wf = true) (hV : Env3 w) :
    Calls Tryd.prog 12 #[.slice a0 n0 c0] w fun e w' => e = .returned (.bool true) ∧ Below w.heap.size w w' := by
  obtain ⟨hx, hc, _, hwf⟩ := w0
  have hv : ∀ z ∈ z0, 0 ≤ z ∧ z ≤ 255 := fun z hz => bounds_u8 (hwf z hz)
  clear hwf
  replace hv := Lib.hid hv
  have hm := hx.max
  by_cases hbig : n0 ≤ 1048576
  case neg =>
    go_enter Tryd.func12, Tryd.ntmps12
    go_wp2
    go_ret
    exact ⟨rfl, Below.refl _ _⟩
  go_enter Tryd.func12, Tryd.ntmps12
  go_wp2_with fail
  refine (drawAddressFrom_any _ _ _ _ _ hx hc hv.out).mono ?_
  rintro e w1 ⟨⟨s, rfl, hs⟩, hB1⟩
  replace hV := hV.step hB1
  obtain ⟨a, b, hf⟩ : ∃ a b, adF (lets s) = (a, b) := ⟨_, _, rfl⟩
  replace hf := Lib.hid hf
  go_wp2_with fail
  refine (addressFrom_impl s _ (by omega) hV a b hf.out).mono ?_
  rintro e w2 ⟨A, n, c, rfl, hn, hsz, ho2, hb2⟩
  have hB2 := bstep hB1 hb2
  replace hV := hV.step hb2
  have hr2 := Rd.own ho2
  clear hb2 hB1 ho2
  go_wp2_with fail
  refine calls_gen fun wB hwB => ?_
  have k3 : wB.heap[w2.heap.size]? = some (.cells #[.int .i64 a.kind, .slice A n c, .string a.name, .int .i64 a.port] 39 (0, 0)) := by
    rw [hwB]
    exact heap_alloc_new w2 _
  have hb : Below w2.heap.size w2 wB := by rw [hwB]; go_grown
  have hsB : wB.heap.size = w2.heap.size + 1 := by rw [hwB]; simp
  clear hwB
  replace hV := hV.step hb
  replace hr2 := hr2.below hb
  have hBB := bstep hB2 hb
  clear hb hB2
  refine (addressFrom_spec s _ (by omega) a b hf.out).mono ?_
  rintro e w3 ⟨A3, n3, c3, rfl, hn3, hsz3, ho3, hb3⟩
  have hB3 := bstep hBB hb3
  replace hV := hV.step hb3
  have hr3 := Rd.own ho3
  replace hr2 := hr2.below hb3
  replace k3 := (hb3.block _ (by omega)).trans k3
  have hs3 := hb3.size
  have hlt3 : w2.heap.size < w3.heap.size := by omega
  clear ho3 hb3 hBB
  have hbb : (b != b) = false := by simp
  have hbe : (b == b) = true := by simp
  obtain ⟨d0, d1, d2, d3⟩ := box_cells k3
  replace k3 := Lib.hid k3
  go_wp2_with fail
  refine calls_gen fun wC hwC => ?_
  have hb : Below w3.heap.size w3 wC := by rw [hwC]; go_grown
  have k4 : wC.heap[w3.heap.size]? = some (.cells #[.int .i64 a.kind, .slice A3 n3 c3, .string a.name, .int .i64 a.port] 39 (0, 0)) := by
    rw [hwC]
    exact heap_alloc_new w3 _
  have hsC : wC.heap.size = w3.heap.size + 1 := by rw [hwC]; simp
  clear hwC
  replace hV := hV.step hb
  replace hr2 := hr2.below hb
  replace hr3 := hr3.below hb
  have hBC := bstep hB3 hb
  replace k3 := (hb.block _ (by omega)).trans k3.out
  clear hb hB3 d0 d1 d2 d3
  refine (sameAddress_same a A n c A3 n3 c3 _ hr2 hr3).mono ?_
  rintro e w4 ⟨rfl, hb4⟩
  have hB4 := bstep hBC hb4
  replace hV := hV.step hb4
  replace hr2 := hr2.below hb4
  replace hr3 := hr3.below hb4
  replace k3 := (hb4.block _ (by omega)).trans k3
  replace k4 := (hb4.block _ (by omega)).trans k4
  have hs4 := hb4.size
  have hl3 : w2.heap.size < w4.heap.size := by omega
  have hl4 : w3.heap.size < w4.heap.size := by omega
  clear hb4 hBC
  cases b
  case false =>
    obtain ⟨d0, d1, d2, d3⟩ := box_cells k3
    obtain ⟨e0, e1, e2, e3⟩ := box_cells k4
    replace k3 := Lib.hid k3
    replace k4 := Lib.hid k4
    go_wp2_with fail
    refine (sameAddress_same a A n c A3 n3 c3 _ hr2 hr3).mono ?_
    rintro e w5 ⟨rfl, hb5⟩
    go_wp2_with fail
    go_ret
    exact ⟨rfl, bstep hB4 hb5⟩
  case true =>
    have f1 : adF (lets (s ++ ⟨#[58, 49]⟩)) = (Ad.none, false) := by rw [lets_append]; exact adF_behind hf.out
    have g1 : (s ++ ⟨#[58, 49]⟩ : ByteArray).size ≤ 2000000 := by rw [ByteArray.size_append]; have : (⟨#[58, 49]⟩ : ByteArray).size = 2 := rfl; omega
    have f2 : adF (lets (⟨#[58]⟩ ++ s)) = (Ad.none, false) := by rw [lets_append]; exact adF_before hf.out
    have g2 : (⟨#[58]⟩ ++ s : ByteArray).size ≤ 2000000 := by rw [ByteArray.size_append]; have : (⟨#[58]⟩ : ByteArray).size = 1 := rfl; omega
    replace f1 := Lib.hid f1
    replace g1 := Lib.hid g1
    replace f2 := Lib.hid f2
    replace g2 := Lib.hid g2
    clear hr2 hr3 k3 k4
    go_wp2_with fail
    refine (addressFrom_impl _ _ g1.out hV _ _ f1.out).mono ?_
    rintro e w5 ⟨A5, n5, c5, rfl, _, _, _, hb5⟩
    have hB5 := bstep hB4 hb5
    replace hV := hV.step hb5
    go_wp2_with fail
    refine calls_gen fun wD hwD => ?_
    have hbD : Below w5.heap.size w5 wD := by rw [hwD]; go_grown
    clear hwD
    replace hV := hV.step hbD
    have hBD := bstep hB5 hbD
    refine (addressFrom_impl _ _ g2.out hV _ _ f2.out).mono ?_
    rintro e w6 ⟨A6, n6, c6, rfl, _, _, _, hb6⟩
    have hB6 := bstep hBD hb6
    go_wp2_with fail
    go_ret
    exact ⟨rfl, hB6.alloc hB6.size _⟩

/-- A world for the witness: what the variables' door leaves, and the pinned table. -/
noncomputable def laidWorld_FnAddressFromNot (os : Os) : World :=
  { World.doorLaid Tryd.prog 72 os with heap := (World.doorLaid Tryd.prog 72 os).heap.modify 4 fun
      | .cells _ t frozen => .cells (Go.Pinned.utf8FirstZ.map fun (z : Nat) => Value.int .u8 (z : Int)).toArray t frozen
      | o => o }
theorem laid_met_FnAddressFromNot (os : Os) : laidMet Tryd.prog Rows.fnAddressFromNotRow.laid ((laidWorld_FnAddressFromNot os).forCall (fun _ _ => 0) ⟨#[], #[.slice none 0 0], []⟩).memory :=
  laidMet_of_run' 8 (by kernel_rfl) (by kernel_rfl)
theorem reads_FnAddressFromNot (os : Os) {H : Type} (enc : TypeId × Value → H) : ∃ places, DataW.whole enc Tryd.prog ((laidWorld_FnAddressFromNot os).forCall (fun _ _ => 0) ⟨#[], #[.slice none 0 0], []⟩).memory Tryd.f12.params.toList Rows.fnAddressFromNotSpec.vars false (#[.slice none 0 0] : Array Value).toList 8 = some ([.nil], [], places) :=
  ⟨[], by kernel_rfl⟩
set_option maxRecDepth 100000 in
theorem lifted_FnAddressFromNot (os : Os) (started : os.Started) (H : Type) (enc : TypeId × Value → H) (F : Stop.Interp) :
    ReturnsInHanded {} Tryd.checked os 12 .any ((OpenSpec.ofChange Rows.fnAddressFromNotSpec).preRow enc Tryd.prog Tryd.f12 Rows.fnAddressFromNotRow.domain false Rows.fnAddressFromNotRow.laid) (((OpenSpec.ofChange Rows.fnAddressFromNotSpec).at F).post enc Tryd.prog Tryd.f12 false true false false) := by
  obtain ⟨places, hx⟩ := reads_FnAddressFromNot os enc
  refine returnsInHanded_of_row (C := Tryd.checked) (s := OpenSpec.ofChange Rows.fnAddressFromNotSpec) row_own started (by kernel_rfl) Tryd.func12
    (witness_row_at (enc := enc) (C := Tryd.checked) false (laidWorld_FnAddressFromNot os) #[.slice none 0 0] rfl (by kernel_rfl) (by kernel_rfl) (by kernel_rfl)
      (OpenSpec.preRow_of_cond 8 hx (by kernel_rfl) (fun k hk => by cases hk) (by kernel_rfl) (laid_met_FnAddressFromNot os))) ?_
  intro W base args ds gs before hval0 hW _ _ _ hL hsh _
  have hval : ∀ (j : Nat) t v, Tryd.f12.params[j]? = some t → args[j]? = some v → Value.okWide Tryd.prog W .any base t v := hval0
  have hW' := hW
  obtain ⟨p, q, hA0, hV, rfl, hfz, hnd⟩ := hW
  have hA : DataW.TrodAll enc Tryd.prog W 0 (fun _ => true) true Tryd.f12.params.toList args.toList ds p := hA0
  rw [Tryd.params12] at hA hval
  obtain ⟨v0, vs0, d0, ds0, p0, q0, hargs, rfl, rfl, h0, r0⟩ := trodAll_cons hA
  obtain ⟨rfl, rfl, rfl⟩ := trodAll_nil r0
  obtain rfl : args = #[v0] := by cases args; simp_all
  obtain ⟨rfl, rfl⟩ := trodVars_none hV
  have k0 := h0
  have lt0 : ∀ x ∈ p0, x.block < W.heap.size := by obtain ⟨m, hm⟩ := k0; exact DataW.trod_lt m _ _ _ hm
  obtain ⟨a0, n0, c0, rfl⟩ := okWide_slice Tryd.underlying27 (hval 0 27 v0 rfl rfl)
  obtain ⟨z0, w0⟩ := rd_open Tryd.underlying27 Tryd.underlying5 (by kernel_rfl) h0
  clear hA0 hval0
  have hM : EnvM W := envM_shaped hsh
  have hP : EnvP W := envP_laid (hL.filter fun x => x.1 == "internal/strconv.uint64pow10")
  have hE : EnvE W := envE_laid (hL.filter fun x => x.1 == "strconv.ErrSyntax") (hL.filter fun x => x.1 == "strconv.ErrRange")
  clear hL hsh
  refine (walk_FnAddressFromNot a0 n0 c0 z0 W w0 ⟨hM, hP, hE⟩).mono fun e W' ⟨he, bel⟩ => ?_
  subst he
  exact ⟨_, rfl, _, _, _, [], _, [], hW', trodAll_mk1 (shut_bool Tryd.underlying4 _), (trodAll_cons_mk (Below.trod row_laidOut (by kernel_rfl) (of_decide_eq_true (by kernel_rfl)) k0 bel lt0) trodAll_mk0), rfl, bel.frame _, fun h => by cases h⟩

theorem over_FnAddressFromNot : Rows.FnAddressFromNotSaid :=
  OpenClaim.holds_of_cond 12 Tryd.f12 rfl rfl rfl rfl rfl rfl rfl ⟨rfl, rfl, rfl, rfl, rfl⟩ rfl rfl rfl rfl rfl (by kernel_rfl) Tryd.func12 (by kernel_rfl)
    (of_decide_eq_true (by kernel_rfl)) (by unfold Func.isWrapper; first | (rw [if_pos (by decide +kernel)]; kernel_rfl) | (rw [if_neg (by decide +kernel)]; exact ⟨rfl, rfl⟩))
    (fun os started H enc _ F => by rw [OpenClaim.pre_eq_preRow]; exact lifted_FnAddressFromNot os started H enc F)
theorem plain_FnAddressFromNot (f : FuncId) (fn : Func) (hf : Tryd.pinned.checked.prog.funcNamed "loop.example/proxyframes/laws.FnAddressFromNot" = some f) (hfn : Tryd.pinned.checked.prog.funcs[f]? = some fn) :
    true = Tryd.pinned.checked.prog.looks [] ∧ ∀ (j : Nat) t, fn.params[j]? = some t → Tryd.pinned.checked.prog.wantsStandIn t = false := by
  obtain rfl : f = 12 := Option.some.inj ((show Tryd.prog.funcNamed "loop.example/proxyframes/laws.FnAddressFromNot" = some 12 by kernel_rfl).symm.trans hf) |>.symm
  obtain rfl : fn = Tryd.f12 := (Option.some.inj (Tryd.func12.symm.trans hfn)).symm
  refine ⟨by kernel_rfl, fun j t ht => ?_⟩
  rw [Tryd.params12] at ht
  obtain rfl : t = 27 := by simpa using Array.mem_of_getElem? ht
  exact (show Tryd.prog.wantsStandIn 27 = false by kernel_rfl)

/-- The statement. -/
theorem fnAddressFromNot_holds : Rows.FnAddressFromNotCardSaid :=
  Claim7.holds_tied_plain_at .later [] _ _ _ _ over_FnAddressFromNot (fun _ h => by cases h) (by kernel_rfl) (fun _ h => by cases h) fnAddressFromNot_row_tie rfl ⟨rfl, rfl⟩ (by kernel_rfl) rfl plain_FnAddressFromNot (by kernel_rfl)
#print axioms fnAddressFromNot_holds
end Go.Proofs.YthgfldabeaepaaaDoor
