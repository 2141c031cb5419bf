/- The statement FnAddressText: a text has its address. No condition. -/
import Derived.Test.YthgfldabeaepaaaDoorCard
import Derived.Test.YthgfldabeaepaaaDoorAdI
import Derived.Test.YthgfldabeaepaaaDoorAdF
import Derived.Test.YthgfldabeaepaaaDoorDrawY
import Derived.Test.YthgfldabeaepaaaDoorSame
namespace Go.Proofs.YthgfldabeaepaaaDoor
open Go.ChangeShapes Go.WideShapes Go.ChangeAt Go.RowKit
open Go.ChangeMaps (open_string shut_string)
set_option maxRecDepth 20000 in
set_option maxHeartbeats 2000000 in
theorem walk_FnAddressText (a0 : Option Addr) (n0 c0 : Nat) (z0 : List Int) (w : World) (w0 : Rd w a0 n0 (z0.map (Value.int .u8)) ∧ n0 ≤ c0 ∧ c0 ≤ maxLen ∧ ∀ x ∈ z0, (Lit.int .u8 x).wf = true) (hV : Env3 w) :
    Calls Tryd.prog 11 #[.slice a0 n0 c0] w fun e w' => e = .returned (.bool true) ∧ Below w.heap.size w w' := by
  obtain ⟨hx, hc, _, hwf⟩ := w0
  have hv : ∀ z ∈ z0, 0 ≤ z ∧ z ≤ 255 := fun z hz => bounds_u8 (hwf z hz)
  clear hwf
  replace hv := Lib.hid hv
  have hm := hx.max
  by_cases hbig : n0 ≤ 1048576
  case neg =>
    go_enter Tryd.func11, Tryd.ntmps11
    go_wp2
    go_ret
    exact ⟨rfl, Below.refl _ _⟩
  go_enter Tryd.func11, Tryd.ntmps11
  go_wp2_with fail
  refine (drawAddressText_any _ _ _ _ _ hx hc hv.out).mono ?_
  rintro e w1 ⟨a, A, n, c, rfl, hn, hs, ho, hB1⟩
  replace hV := hV.step hB1
  have hr1 := Rd.own ho
  have hs1 := hB1.size
  clear ho
  go_wp2_with fail
  refine calls_gen fun wB hwB => ?_
  have k3 : wB.heap[w1.heap.size]? = some (.cells #[.int .i64 a.kind, .slice A n c, .string a.name, .int .i64 a.port] 39 (0, 0)) := by
    rw [hwB]
    exact heap_alloc_new w1 _
  have hb : Below w1.heap.size w1 wB := by rw [hwB]; go_grown
  have hsB : wB.heap.size = w1.heap.size + 1 := by rw [hwB]; simp
  clear hwB
  replace hV := hV.step hb
  replace hr1 := hr1.below hb
  have hBB := bstep hB1 hb
  clear hb
  obtain ⟨T, hT⟩ : ∃ T, txt (adS a) = T := ⟨_, rfl⟩
  refine (addressText_impl a A n c _ hr1 (by omega) hV.1 hV.2.1).mono ?_
  rw [hT]
  rintro e w2 ⟨rfl, hb2⟩
  have hB2 := bstep hBB hb2
  replace hV := hV.step hb2
  replace hr1 := hr1.below hb2
  replace k3 := (hb2.block _ (by omega)).trans k3
  have hs2 := hb2.size
  obtain ⟨d0, d1, d2, d3⟩ := box_cells k3
  replace hT := Lib.hid hT
  clear hBB hb2 hB1
  go_wp2_with fail
  refine (addressText_spec a A n c _ hr1 (by omega)).mono ?_
  rw [hT.out]
  rintro e w3 ⟨rfl, hb3⟩
  have hB3 := bstep hB2 hb3
  replace hV := hV.step hb3
  replace hr1 := hr1.below hb3
  replace k3 := (hb3.block _ (by omega)).trans k3
  have hs3 := hb3.size
  clear hB2 hb3 d0 d1 d2 d3
  cases hav : adV a with
  | false =>
    have e0 : adS a = [] := if_neg (by simp [hav])
    have hT0 := hT.out
    rw [e0] at hT0
    subst hT0
    go_wp2_with fail
    go_ret
    exact ⟨rfl, hB3⟩
  | true =>
    have e1 : adS a = adT a := if_pos hav
    have hT0 := hT.out
    rw [e1] at hT0
    have hls : lets T = adT a := by rw [← hT0, lets_txt]
    have hlen := adT_short hav
    rw [← hls, lets_length] at hlen
    have hse : T.toList.isEmpty = false := by rw [isEmpty_size2, decide_eq_false (by omega)]
    have hF : adF (lets T) = (a, true) := by rw [hls]; exact adF_text hav
    replace hF := Lib.hid hF
    replace hav := Lib.hid hav
    replace hls := Lib.hid hls
    clear hT0 hT e1
    go_wp2_with fail
    refine (addressFrom_impl T _ (by omega) hV a true hF.out).mono ?_
    rintro e w5 ⟨A5, n5, c5, rfl, hn5, hs5, ho5, hb5⟩
    have hB5 := bstep hB3 hb5
    have hr5 := Rd.own ho5
    replace hr1 := hr1.below hb5
    replace k3 := (hb5.block _ (by omega)).trans k3
    have hz5 := hb5.size
    have hlt : w1.heap.size < w5.heap.size := by omega
    obtain ⟨d0, d1, d2, d3⟩ := box_cells k3
    replace k3 := Lib.hid k3
    clear hb5 hB3 ho5
    go_wp2_with fail
    refine calls_gen fun wC hwC => ?_
    have hb6 : Below w5.heap.size w5 wC := by rw [hwC]; go_grown
    clear hwC
    refine (sameAddress_same a A5 n5 c5 A n c _ (hr5.below hb6) (hr1.below hb6)).mono ?_
    rintro e w7 ⟨rfl, hb7⟩
    have hB7 := bstep (bstep hB5 hb6) hb7
    go_wp2_with fail
    go_ret
    exact ⟨rfl, hB7⟩

/-- A world for the witness: what the variables' door leaves, and the pinned table. -/
noncomputable def laidWorld_FnAddressText (os : Os) : World :=
  { World.doorLaid Tryd.prog 72 os with heap := (World.doorLaid Tryd.prog 72 os).heap.modify 4 fun
      | .cells _ t frozen => .cells (Go.Pinned.utf8FirstZ.map fun (z : Nat) => Value.int .u8 (z : Int)).toArray t frozen
      | o => o }
theorem laid_met_FnAddressText (os : Os) : laidMet Tryd.prog Rows.fnAddressTextRow.laid ((laidWorld_FnAddressText os).forCall (fun _ _ => 0) ⟨#[], #[.slice none 0 0], []⟩).memory :=
  laidMet_of_run' 8 (by kernel_rfl) (by kernel_rfl)
theorem reads_FnAddressText (os : Os) {H : Type} (enc : TypeId × Value → H) : ∃ places, DataW.whole enc Tryd.prog ((laidWorld_FnAddressText os).forCall (fun _ _ => 0) ⟨#[], #[.slice none 0 0], []⟩).memory Tryd.f11.params.toList Rows.fnAddressTextSpec.vars false (#[.slice none 0 0] : Array Value).toList 8 = some ([.nil], [], places) :=
  ⟨[], by kernel_rfl⟩
set_option maxRecDepth 100000 in
theorem lifted_FnAddressText (os : Os) (started : os.Started) (H : Type) (enc : TypeId × Value → H) (F : Stop.Interp) :
    ReturnsInHanded {} Tryd.checked os 11 .any ((OpenSpec.ofChange Rows.fnAddressTextSpec).preRow enc Tryd.prog Tryd.f11 Rows.fnAddressTextRow.domain false Rows.fnAddressTextRow.laid) (((OpenSpec.ofChange Rows.fnAddressTextSpec).at F).post enc Tryd.prog Tryd.f11 false true false false) := by
  obtain ⟨places, hx⟩ := reads_FnAddressText os enc
  refine returnsInHanded_of_row (C := Tryd.checked) (s := OpenSpec.ofChange Rows.fnAddressTextSpec) row_own started (by kernel_rfl) Tryd.func11
    (witness_row_at (enc := enc) (C := Tryd.checked) false (laidWorld_FnAddressText os) #[.slice none 0 0] rfl (by kernel_rfl) (by kernel_rfl) (by kernel_rfl)
      (OpenSpec.preRow_of_cond 8 hx (by kernel_rfl) (fun k hk => by cases hk) (by kernel_rfl) (laid_met_FnAddressText os))) ?_
  intro W base args ds gs before hval0 hW _ _ _ hL hsh _
  have hval : ∀ (j : Nat) t v, Tryd.f11.params[j]? = some t → args[j]? = some v → Value.okWide Tryd.prog W .any base t v := hval0
  have hW' := hW
  obtain ⟨p, q, hA0, hV, rfl, hfz, hnd⟩ := hW
  have hA : DataW.TrodAll enc Tryd.prog W 0 (fun _ => true) true Tryd.f11.params.toList args.toList ds p := hA0
  rw [Tryd.params11] at hA hval
  obtain ⟨v0, vs0, d0, ds0, p0, q0, hargs, rfl, rfl, h0, r0⟩ := trodAll_cons hA
  obtain ⟨rfl, rfl, rfl⟩ := trodAll_nil r0
  obtain rfl : args = #[v0] := by cases args; simp_all
  obtain ⟨rfl, rfl⟩ := trodVars_none hV
  have k0 := h0
  have lt0 : ∀ x ∈ p0, x.block < W.heap.size := by obtain ⟨m, hm⟩ := k0; exact DataW.trod_lt m _ _ _ hm
  obtain ⟨a0, n0, c0, rfl⟩ := okWide_slice Tryd.underlying27 (hval 0 27 v0 rfl rfl)
  obtain ⟨z0, w0⟩ := rd_open Tryd.underlying27 Tryd.underlying5 (by kernel_rfl) h0
  clear hA0 hval0
  have hM : EnvM W := envM_shaped hsh
  have hP : EnvP W := envP_laid (hL.filter fun x => x.1 == "internal/strconv.uint64pow10")
  have hE : EnvE W := envE_laid (hL.filter fun x => x.1 == "strconv.ErrSyntax") (hL.filter fun x => x.1 == "strconv.ErrRange")
  clear hL hsh
  refine (walk_FnAddressText a0 n0 c0 z0 W w0 ⟨hM, hP, hE⟩).mono fun e W' ⟨he, bel⟩ => ?_
  subst he
  exact ⟨_, rfl, _, _, _, [], _, [], hW', trodAll_mk1 (shut_bool Tryd.underlying4 _), (trodAll_cons_mk (Below.trod row_laidOut (by kernel_rfl) (of_decide_eq_true (by kernel_rfl)) k0 bel lt0) trodAll_mk0), rfl, bel.frame _, fun h => by cases h⟩

theorem over_FnAddressText : Rows.FnAddressTextSaid :=
  OpenClaim.holds_of_cond 11 Tryd.f11 rfl rfl rfl rfl rfl rfl rfl ⟨rfl, rfl, rfl, rfl, rfl⟩ rfl rfl rfl rfl rfl (by kernel_rfl) Tryd.func11 (by kernel_rfl)
    (of_decide_eq_true (by kernel_rfl)) (by unfold Func.isWrapper; first | (rw [if_pos (by decide +kernel)]; kernel_rfl) | (rw [if_neg (by decide +kernel)]; exact ⟨rfl, rfl⟩))
    (fun os started H enc _ F => by rw [OpenClaim.pre_eq_preRow]; exact lifted_FnAddressText os started H enc F)
theorem plain_FnAddressText (f : FuncId) (fn : Func) (hf : Tryd.pinned.checked.prog.funcNamed "loop.example/proxyframes/laws.FnAddressText" = some f) (hfn : Tryd.pinned.checked.prog.funcs[f]? = some fn) :
    true = Tryd.pinned.checked.prog.looks [] ∧ ∀ (j : Nat) t, fn.params[j]? = some t → Tryd.pinned.checked.prog.wantsStandIn t = false := by
  obtain rfl : f = 11 := Option.some.inj ((show Tryd.prog.funcNamed "loop.example/proxyframes/laws.FnAddressText" = some 11 by kernel_rfl).symm.trans hf) |>.symm
  obtain rfl : fn = Tryd.f11 := (Option.some.inj (Tryd.func11.symm.trans hfn)).symm
  refine ⟨by kernel_rfl, fun j t ht => ?_⟩
  rw [Tryd.params11] at ht
  obtain rfl : t = 27 := by simpa using Array.mem_of_getElem? ht
  exact (show Tryd.prog.wantsStandIn 27 = false by kernel_rfl)

/-- The statement. -/
theorem fnAddressText_holds : Rows.FnAddressTextCardSaid :=
  Claim7.holds_tied_plain_at .later [] _ _ _ _ over_FnAddressText (fun _ h => by cases h) (by kernel_rfl) (fun _ h => by cases h) fnAddressText_row_tie rfl ⟨rfl, rfl⟩ (by kernel_rfl) rfl plain_FnAddressText (by kernel_rfl)
#print axioms fnAddressText_holds
end Go.Proofs.YthgfldabeaepaaaDoor
