/- The statement FnExactAddressText: the program's AddressText answers what the reference's answers, for every address. No condition. -/
import Derived.Test.YthgfldabeaepaaaDoorCard
import Derived.Test.YthgfldabeaepaaaDoorRowA
import Derived.Test.YthgfldabeaepaaaDoorAdT
import Derived.Deep.RegionWith
namespace Go.Proofs.YthgfldabeaepaaaDoor
open Go.ChangeShapes Go.WideShapes Go.ChangeAt Go.RowKit
open Go.ChangeMaps (open_string shut_string)

set_option maxRecDepth 20000 in
set_option maxHeartbeats 2000000 in
theorem walk_FnExactAddressText (ki : Int) (A : Option Addr) (n c : Nat) (zs : List Int) (s : ByteArray) (po : Int) (w : World) (w0 : (Rd w A n (zs.map (Value.int .i64)) ∧ n ≤ c ∧ c ≤ maxLen) ∧ s.size ≤ maxLen) (hMP : EnvM w ∧ EnvP w) :
    Calls Tryd.prog 10 #[.agg #[.int .i64 ki, .slice A n c, .string s, .int .i64 po]] w fun e w' => e = .returned (.bool true) ∧ Below w.heap.size w w' := by
  obtain ⟨hM, hP⟩ := hMP
  obtain ⟨⟨hx, _, _⟩, hs⟩ := w0
  unfold maxLen at hs
  have hm := hx.max
  obtain ⟨a, ha⟩ : ∃ a : Ad, a = ⟨ki, zs, s, po⟩ := ⟨_, rfl⟩
  obtain ⟨rfl, rfl, rfl, rfl⟩ : ki = a.kind ∧ zs = a.quad ∧ s = a.name ∧ po = a.port := by subst ha; exact ⟨rfl, rfl, rfl, rfl⟩
  clear ha
  obtain ⟨q, hq⟩ : ∃ q : Int, q = if n + a.name.size ≤ 1048576 then 1048576 - (n : Int) - (a.name.size : Int) else -1 := ⟨_, rfl⟩
  have hqn : (n + a.name.size ≤ 1048576 ∧ 0 ≤ q) ∨ q < 0 := by rw [hq]; split <;> omega
  replace hq := Lib.hid hq
  go_enter Tryd.func10, Tryd.ntmps10
  go_wp2_with fail
  refine calls_gen fun wA hwA => ?_
  have k0 : wA.heap[w.heap.size]? = some (.cells #[.int .i64 a.kind, .slice A n c, .string a.name, .int .i64 a.port] 36 (0, 0)) := by
    rw [hwA]
    exact heap_alloc_new w _
  have hB0 : Below w.heap.size w wA := by rw [hwA]; go_grown
  have hs0 : w.heap.size < wA.heap.size := by rw [hwA]; simp
  clear hwA
  refine (szAddress_any a A n c _ hm (by omega) q hq.out).mono ?_
  rintro e w1 ⟨rfl, hb1⟩
  have hB1 := bstep hB0 hb1
  replace k0 := (hb1.block _ hs0).trans k0
  have hs1 := Nat.lt_of_lt_of_le hs0 hb1.size
  clear hb1 hB0
  rcases hqn with ⟨hsz, hq0⟩ | hq0
  case inr =>
    have hd : decide (q < 0) = true := by simpa using hq0
    go_wp2_with fail
    go_ret
    exact ⟨rfl, hB1⟩
  have hd : decide (q < 0) = false := by simpa using hq0
  obtain ⟨c0, c1, c2, c3⟩ := box_cells k0
  have hx1 := hx.below hB1
  replace hM := hM.step hB1
  go_wp2_with fail
  refine (toAddress_any a A n c _ hx1 (by omega)).mono ?_
  rintro e w2 ⟨A2, c2', rfl, ho2, hb2⟩
  have hr2 := Rd.own ho2
  have hB2 := bstep hB1 hb2
  replace k0 := (hb2.block _ hs1).trans k0
  have hs2 := Nat.lt_of_lt_of_le hs1 hb2.size
  replace hx1 := hx1.below hb2
  replace hM := hM.step hb2
  clear hb2 hB1 ho2 c0 c1 c2 c3
  go_wp2_with fail
  refine (addressText_spec a A2 n c2' _ hr2 (by omega)).mono ?_
  rintro e w3 ⟨rfl, hb3⟩
  generalize hT : txt (adS a) = T
  replace hT := Lib.hid hT
  have hB3 := bstep hB2 hb3
  replace k0 := (hb3.block _ hs2).trans k0
  have hs3 := Nat.lt_of_lt_of_le hs2 hb3.size
  replace hx1 := hx1.below hb3
  replace hM := hM.step hb3
  obtain ⟨c0, c1, c2, c3⟩ := box_cells k0
  clear hb3 hB2 hr2
  go_wp2_with fail
  refine (toAddress_any a A n c _ hx1 (by omega)).mono ?_
  rintro e w4 ⟨A4, c4, rfl, ho4, hb4⟩
  have hr4 := Rd.own ho4
  have hB4 := bstep hB3 hb4
  replace k0 := (hb4.block _ hs3).trans k0
  have hs4 := Nat.lt_of_lt_of_le hs3 hb4.size
  replace hx1 := hx1.below hb4
  replace hM := hM.step hb4
  clear hb4 hB3 ho4 c0 c1 c2 c3
  go_wp2_with fail
  refine calls_gen fun wB hwB => ?_
  have k5 : wB.heap[w4.heap.size]? = some (.cells #[.int .i64 a.kind, .slice A4 n c4, .string a.name, .int .i64 a.port] 39 (0, 0)) := by
    rw [hwB]
    exact heap_alloc_new w4 _
  have hb5 : Below w4.heap.size w4 wB := by rw [hwB]; go_grown
  have hs5 : w4.heap.size < wB.heap.size := by rw [hwB]; simp
  clear hwB
  have hB5 := bstep hB4 hb5
  replace k0 := (hb5.block _ hs4).trans k0
  have hs0' := Nat.lt_of_lt_of_le hs4 hb5.size
  refine (addressText_impl a A4 n c4 _ (hr4.below hb5) (by omega) (hM.step hb5) (hP.step hB5)).mono ?_
  rw [hT.out]
  rintro e w6 ⟨rfl, hb6⟩
  have hB6 := bstep hB5 hb6
  replace k0 := (hb6.block _ hs0').trans k0
  replace k5 := (hb6.block _ hs5).trans k5
  have hs06 := Nat.lt_of_lt_of_le hs0' hb6.size
  have hs56 := Nat.lt_of_lt_of_le hs5 hb6.size
  replace hx1 := (hx1.below hb5).below hb6
  replace hr4 := (hr4.below hb5).below hb6
  clear hb5 hb6 hB4 hB5 hM hP
  obtain ⟨c0, c1, c2, c3⟩ := box_cells k0
  obtain ⟨d0, d1, d2, d3⟩ := box_cells k5
  replace k5 := Lib.hid k5
  replace k0 := Lib.hid k0
  go_wp2_with fail
  go_region_with (first
    | (go_at_call 29
       refine (toAddress_any a A n c _ ?_ (by omega)).mono ?_
       exact hx1
       rintro e w7 ⟨A7, c7, rfl, ho7, hb7⟩
       have hr7 := Rd.own ho7
       obtain ⟨f0, f1, f2, f3⟩ := box_cells ((hb7.block _ hs56).trans k5.out)
       have hr8 := Rd.below (w := w6.drew) hr4 hb7)
    | (go_at_call 31
       refine (eqAddress_same a A4 n c4 A7 n c7 _ ?_ ?_).mono ?_
       exact hr8
       exact hr7
       rintro e w8 ⟨rfl, hb8⟩))
  all_goals
    go_wp2_with fail
    go_ret
    exact ⟨rfl, bstep (bstep hB6 (below_drew hb7)) hb8⟩

/-- A world for the witness: what the variables' door leaves, and the pinned table. -/
noncomputable def laidWorld_FnExactAddressText (os : Os) : World :=
  { World.doorLaid Tryd.prog 72 os with heap := (World.doorLaid Tryd.prog 72 os).heap.modify 4 fun
      | .cells _ t frozen => .cells (Go.Pinned.utf8FirstZ.map fun (z : Nat) => Value.int .u8 (z : Int)).toArray t frozen
      | o => o }
theorem laid_met_FnExactAddressText (os : Os) : laidMet Tryd.prog Rows.fnExactAddressTextRow.laid ((laidWorld_FnExactAddressText os).forCall (fun _ _ => 0) ⟨#[], #[.agg #[.int .i64 0, .slice none 0 0, .string ByteArray.empty, .int .i64 0]], []⟩).memory :=
  laidMet_of_run' 8 (by kernel_rfl) (by kernel_rfl)
theorem reads_FnExactAddressText (os : Os) {H : Type} (enc : TypeId × Value → H) : ∃ places, DataW.whole enc Tryd.prog ((laidWorld_FnExactAddressText os).forCall (fun _ _ => 0) ⟨#[], #[.agg #[.int .i64 0, .slice none 0 0, .string ByteArray.empty, .int .i64 0]], []⟩).memory Tryd.f10.params.toList Rows.fnExactAddressTextSpec.vars false (#[.agg #[.int .i64 0, .slice none 0 0, .string ByteArray.empty, .int .i64 0]] : Array Value).toList 8 = some ([.agg [.lit (.int .i64 0), .nil, .lit (.string []), .lit (.int .i64 0)]], [], places) :=
  ⟨[], by kernel_rfl⟩
set_option maxRecDepth 100000 in
theorem lifted_FnExactAddressText (os : Os) (started : os.Started) (H : Type) (enc : TypeId × Value → H) (F : Stop.Interp) :
    ReturnsInHanded {} Tryd.checked os 10 .any ((OpenSpec.ofChange Rows.fnExactAddressTextSpec).preRow enc Tryd.prog Tryd.f10 Rows.fnExactAddressTextRow.domain false Rows.fnExactAddressTextRow.laid) (((OpenSpec.ofChange Rows.fnExactAddressTextSpec).at F).post enc Tryd.prog Tryd.f10 false true false false) := by
  obtain ⟨places, hx⟩ := reads_FnExactAddressText os enc
  refine returnsInHanded_of_row (C := Tryd.checked) (s := OpenSpec.ofChange Rows.fnExactAddressTextSpec) row_own started (by kernel_rfl) Tryd.func10
    (witness_row_at (enc := enc) (C := Tryd.checked) false (laidWorld_FnExactAddressText os) #[.agg #[.int .i64 0, .slice none 0 0, .string ByteArray.empty, .int .i64 0]] rfl (by kernel_rfl) (by kernel_rfl) (by kernel_rfl)
      (OpenSpec.preRow_of_cond 8 hx (by kernel_rfl) (fun k hk => by cases hk) (by kernel_rfl) (laid_met_FnExactAddressText os))) ?_
  intro W base args ds gs before hval0 hW _ _ _ hL hsh _
  have hval : ∀ (j : Nat) t v, Tryd.f10.params[j]? = some t → args[j]? = some v → Value.okWide Tryd.prog W .any base t v := hval0
  have hW' := hW
  obtain ⟨p, q, hA0, hV, rfl, hfz, hnd⟩ := hW
  have hA : DataW.TrodAll enc Tryd.prog W 0 (fun _ => true) true Tryd.f10.params.toList args.toList ds p := hA0
  rw [Tryd.params10] at hA hval
  obtain ⟨v0, vs0, d0, ds0, p0, q0, hargs, rfl, rfl, h0, r0⟩ := trodAll_cons hA
  obtain ⟨rfl, rfl, rfl⟩ := trodAll_nil r0
  obtain rfl : args = #[v0] := by cases args; simp_all
  obtain ⟨rfl, rfl⟩ := trodVars_none hV
  have k0 := h0
  have lt0 : ∀ x ∈ p0, x.block < W.heap.size := by obtain ⟨m, hm⟩ := k0; exact DataW.trod_lt m _ _ _ hm
  obtain ⟨ki0, a0, n0, c0, z0, s0, po0, rfl, w0⟩ := address_open (hval 0 36 v0 rfl rfl) h0
  clear hA0 hval0
  have hM : EnvM W := envM_shaped hsh
  have hP : EnvP W := envP_laid (hL.filter fun x => x.1 == "internal/strconv.uint64pow10")
  clear hL hsh
  refine (walk_FnExactAddressText ki0 a0 n0 c0 z0 s0 po0 W w0 ⟨hM, hP⟩).mono fun e W' ⟨he, bel⟩ => ?_
  subst he
  exact ⟨_, rfl, _, _, _, [], _, [], hW', trodAll_mk1 (shut_bool Tryd.underlying4 _), (trodAll_cons_mk (Below.trod row_laidOut (by kernel_rfl) (of_decide_eq_true (by kernel_rfl)) k0 bel lt0) trodAll_mk0), rfl, bel.frame _, fun h => by cases h⟩

theorem over_FnExactAddressText : Rows.FnExactAddressTextSaid :=
  OpenClaim.holds_of_cond 10 Tryd.f10 rfl rfl rfl rfl rfl rfl rfl ⟨rfl, rfl, rfl, rfl, rfl⟩ rfl rfl rfl rfl rfl (by kernel_rfl) Tryd.func10 (by kernel_rfl)
    (of_decide_eq_true (by kernel_rfl)) (by unfold Func.isWrapper; first | (rw [if_pos (by decide +kernel)]; kernel_rfl) | (rw [if_neg (by decide +kernel)]; exact ⟨rfl, rfl⟩))
    (fun os started H enc _ F => by rw [OpenClaim.pre_eq_preRow]; exact lifted_FnExactAddressText os started H enc F)
theorem plain_FnExactAddressText (f : FuncId) (fn : Func) (hf : Tryd.pinned.checked.prog.funcNamed "loop.example/proxyframes/laws.FnExactAddressText" = some f) (hfn : Tryd.pinned.checked.prog.funcs[f]? = some fn) :
    true = Tryd.pinned.checked.prog.looks [] ∧ ∀ (j : Nat) t, fn.params[j]? = some t → Tryd.pinned.checked.prog.wantsStandIn t = false := by
  obtain rfl : f = 10 := Option.some.inj ((show Tryd.prog.funcNamed "loop.example/proxyframes/laws.FnExactAddressText" = some 10 by kernel_rfl).symm.trans hf) |>.symm
  obtain rfl : fn = Tryd.f10 := (Option.some.inj (Tryd.func10.symm.trans hfn)).symm
  refine ⟨by kernel_rfl, fun j t ht => ?_⟩
  rw [Tryd.params10] at ht
  obtain rfl : t = 36 := by simpa using Array.mem_of_getElem? ht
  exact (show Tryd.prog.wantsStandIn 36 = false by kernel_rfl)

/-- The statement. -/
theorem fnExactAddressText_holds : Rows.FnExactAddressTextCardSaid :=
  Claim7.holds_tied_plain_at .later [] _ _ _ _ over_FnExactAddressText (fun _ h => by cases h) (by kernel_rfl) (fun _ h => by cases h) fnExactAddressText_row_tie rfl ⟨rfl, rfl⟩ (by kernel_rfl) rfl plain_FnExactAddressText (by kernel_rfl)
#print axioms fnExactAddressText_holds
end Go.Proofs.YthgfldabeaepaaaDoor
