/- The statement FnExactOldBytes: the program's OldBytes answers what the reference's answers, for every request. No condition. -/
import Derived.Test.YtjlgkepbflcefaaDoorCard
import Derived.Test.YtjlgkepbflcefaaDoorRowO
import Derived.Test.YtjlgkepbflcefaaDoorOB
import Derived.Deep.RegionWith
import Derived.Deep.DeepCutAuto
namespace Go.Proofs.YtjlgkepbflcefaaDoor
open Go.ChangeShapes Go.WideShapes Go.ChangeAt Go.RowKit
open Go.ChangeMaps (open_string shut_string)
set_option maxRecDepth 20000 in
set_option maxHeartbeats 8000000 in
theorem walk_FnExactOldBytes (co ki : Int) (A : Option Addr) (n c : Nat) (zs : List Int) (s : ByteArray) (po : Int) (us : ByteArray) (w : World) (w0 : (Rd w A n (zs.map (Value.int .i64)) ∧ n ≤ c ∧ c ≤ maxLen) ∧ s.size ≤ maxLen ∧ us.size ≤ maxLen) (hM : EnvM w) :
    Calls Tryd.prog 9 #[.agg #[.int .i64 co, .int .i64 ki, .slice A n c, .string s, .int .i64 po, .string us]] w fun e w' => e = .returned (.bool true) ∧ Below w.heap.size w w' := by
  obtain ⟨⟨hx, _, _⟩, hs, hus⟩ := w0
  unfold maxLen at hs hus
  have hm := hx.max
  obtain ⟨x, ha⟩ : ∃ x : Od, x = ⟨co, ⟨ki, zs, s, po⟩, us⟩ := ⟨_, rfl⟩
  obtain ⟨rfl, rfl, rfl, rfl, rfl, rfl⟩ : co = x.cmd ∧ ki = x.to.kind ∧ zs = x.to.quad ∧ s = x.to.name ∧ po = x.to.port ∧ us = x.user := by subst ha; exact ⟨rfl, rfl, rfl, rfl, rfl, rfl⟩
  clear ha
  obtain ⟨zs, b, hf⟩ : ∃ zs b, odW x = (zs, b) := ⟨_, _, rfl⟩
  have hzl : zs.length ≤ 100 := odW_length hf
  replace hf := Lib.hid hf
  go_enter Tryd.func9, Tryd.ntmps9
  go_wp2_with fail
  refine calls_gen fun wA hwA => ?_
  have k0 : wA.heap[w.heap.size]? = some (.cells #[.int .i64 x.cmd, .int .i64 x.to.kind, .slice A n c, .string x.to.name, .int .i64 x.to.port, .string x.user] 45 (0, 0)) := by
    rw [hwA]
    exact heap_alloc_new w _
  have hB0 : Below w.heap.size w wA := by rw [hwA]; go_grown
  have hs0 : w.heap.size < wA.heap.size := by rw [hwA]; simp
  clear hwA
  refine (szOld_any x A n c _ hm (by omega) (by omega)).mono ?_
  rintro e w1 ⟨⟨q, rfl, hqn⟩, hb1⟩
  have hB1 := bstep hB0 hb1
  replace k0 := (hb1.block _ hs0).trans k0
  have hs1 := Nat.lt_of_lt_of_le hs0 hb1.size
  clear hb1 hB0
  rcases hqn with hq0 | ⟨hq0, hsz⟩
  case inl =>
    have hd : decide (q < 0) = true := by simp; omega
    clear hq0
    go_wp2_with fail
    go_ret
    exact ⟨rfl, hB1⟩
  have hd : decide (q < 0) = false := by simp; omega
  obtain ⟨c0, c1, c2, c3, c4', c5'⟩ := six_cells k0
  have hx1 := hx.below hB1
  replace hM := hM.step hB1
  go_wp2_with fail
  refine (toOld_any x A n c _ hx1 (by omega)).mono ?_
  rintro e w2 ⟨A2, c2', rfl, ho2, hb2⟩
  have hr2 := Rd.own ho2
  have hB2 := bstep hB1 hb2
  replace k0 := (hb2.block _ hs1).trans k0
  have hs2 := Nat.lt_of_lt_of_le hs1 hb2.size
  replace hx1 := hx1.below hb2
  replace hM := hM.step hb2
  clear hb2 hB1 ho2 c0 c1 c2 c3 c4' c5'
  go_wp2_with fail
  refine (oldBytes_spec x A2 n c2' _ hr2 (by omega) (by omega) _ _ hf.out).mono ?_
  rintro e w3 ⟨AW, nW, cW, rfl, oW, hb3⟩
  have hB3 := bstep hB2 hb3
  have hs3 := Nat.lt_of_lt_of_le hs2 hb3.size
  replace k0 := (hb3.block _ (by omega)).trans k0
  replace hx1 := hx1.below hb3
  replace hM := hM.step hb3
  have hrW := Rd.own oW
  have hrW3 := hrW
  have hlW := hrW.ilen
  obtain ⟨c0, c1, c2, c3, c4', c5'⟩ := six_cells k0
  clear hb3 hB2 hr2 oW
  go_wp2_with fail
  refine (toOld_any x A n c _ hx1 (by omega)).mono ?_
  rintro e w4 ⟨A4, c4, rfl, o4, hb4⟩
  have o44 := o4
  have hB4 := bstep hB3 hb4
  have hs4 := Nat.lt_of_lt_of_le hs3 hb4.size
  have hz4 := hb4.size
  replace k0 := (hb4.block _ (by omega)).trans k0
  replace hx1 := hx1.below hb4
  replace hM := hM.step hb4
  replace hrW := hrW.below hb4
  clear hb4 hB3 c0 c1 c2 c3 c4' c5'
  go_wp2_with fail
  refine calls_gen fun wB hwB => ?_
  have k5 : wB.heap[w4.heap.size]? = some (.cells #[.int .i64 x.cmd, .int .i64 x.to.kind, .slice A4 n c4, .string x.to.name, .int .i64 x.to.port, .string x.user] 39 (0, 0)) := by
    rw [hwB]
    exact heap_alloc_new w4 _
  have hb5 : Below w4.heap.size w4 wB := by rw [hwB]; go_grown
  have hs5 : wB.heap.size = w4.heap.size + 1 := by rw [hwB]; simp
  clear hwB
  have hB5 := bstep hB4 hb5
  replace k0 := (hb5.block _ (by omega)).trans k0
  replace hx1 := hx1.below hb5
  replace hM := hM.step hb5
  replace hrW := hrW.below hb5
  replace o4 := own_below o4 hb5
  clear hb5 hB4
  refine (oldBytes_impl x A4 n c4 _ hM (Rd.own o4) (own_cap o4).1 (by omega) (by omega) _ _ hf.out).mono ?_
  rintro e w6 ⟨AG, nG, cG, rfl, oG, hb6⟩
  have hB6 := bstep hB5 hb6
  have hs6 := hb6.size
  replace k0 := (hb6.block _ (by omega)).trans k0
  replace k5 := (hb6.block _ (by omega)).trans k5
  replace hx1 := hx1.below hb6
  replace hM := hM.step hb6
  replace hrW := hrW.below hb6
  replace o4 := own_below o4 hb6
  have hlG := (Rd.own oG).ilen
  clear hb6 hB5
  have hbb : (b != b) = false := by simp
  go_wp2_with fail
  refine (eqIntS_any _ _ _ _ _ _ _ _ _ (Rd.own oG) hrW).mono ?_
  rintro e w7 ⟨rfl, hb7⟩
  rw [decide_eq_true rfl]
  have hB7 := bstep hB6 hb7
  have hs7 := hb7.size
  replace k0 := (hb7.block _ (by omega)).trans k0
  replace k5 := (hb7.block _ (by omega)).trans k5
  replace hx1 := hx1.below hb7
  replace hM := hM.step hb7
  replace hrW := hrW.below hb7
  replace o4 := own_below o4 hb7
  replace oG := own_below oG hb7
  clear hb7 hB6
  obtain ⟨c0, c1, c2, c3, c4', c5'⟩ := six_cells k0
  obtain ⟨d0, d1, d2, d3, d4, d5⟩ := six_cells k5
  have hr4 := Rd.own o4
  replace k5 := Lib.hid k5
  replace k0 := Lib.hid k0
  go_upto_region 10 with fail
  go_cut [45] (fun v wx => v = .bool false ∧ Below w7.heap.size w7 wx)
  case first =>
    go_region_with (first
      | (go_at_call 33
         refine (toOld_any x A n c _ ?_ (by omega)).mono ?_
         exact hx1
         rintro e w8 ⟨A8, c8, rfl, ho8, hb8⟩
         have hr8 := Rd.own ho8
         have hlt8 : w4.heap.size < w7.drew.heap.size := show w4.heap.size < w7.heap.size by omega
         obtain ⟨f0, f1, f2, f3, f4, f5⟩ := six_cells ((hb8.block _ hlt8).trans k5.out)
         have hr48 := Rd.below (w := w7.drew) hr4 hb8)
      | (go_at_call 34
         refine (eqOld_same x A4 n c4 A8 n c8 _ ?_ ?_).mono ?_
         exact hr48
         exact hr8
         rintro e w9 ⟨rfl, hb9⟩))
    all_goals
      go_wp2_with fail
      go_meet
      exact ⟨rfl, bstep (below_drew hb8) hb9⟩
  case rest =>
  obtain ⟨rfl, hb8⟩ := hcut
  replace k0 := k0.out
  replace k5 := k5.out
  have hB8 := bstep hB7 hb8
  have hs8 := hb8.size
  replace k0 := (hb8.block _ (by omega)).trans k0
  replace k5 := (hb8.block _ (by omega)).trans k5
  replace hx1 := hx1.below hb8
  replace hM := hM.step hb8
  replace hrW := hrW.below hb8
  replace o4 := own_below o4 hb8
  replace oG := own_below oG hb8
  clear hb8 hB7 hr4 c0 c1 c2 c3 c4' c5' d0 d1 d2 d3 d4 d5
  obtain ⟨d0, d1, d2, d3, d4, d5⟩ := six_cells k5
  go_wp2_with fail
  refine (markOld_any _ x A4 n c4 1 _ o4 (by omega)).mono ?_
  rintro e w9 ⟨rfl, o9, hg9⟩
  have hB9 := bown hB8 o4 (by omega) hg9
  have hs9 := hg9.size
  have hfr := o44.lt
  have hfr4 : ∀ k, Value.ownBlock (.slice A4 n c4) = some k → w3.heap.size ≤ k ∧ k < w4.heap.size := hfr
  replace k0 := (hg9.block _ (by omega) (fun h => by have := hfr4 _ h.symm; omega)).trans k0
  replace hrW := hrW.far hrW3 (Nat.le_refl _) o4 hg9
  replace oG := own_two o44 (by omega) oG hg9
  replace hM := hM.grown hg9 (fun k hk => by have := hfr4 k hk; omega)
  replace hx1 := hx1.far hx (by omega) o4 hg9
  clear hg9 hB8 d0 d1 d2 d3 d4 d5 k5 o4 o9 hfr hfr4
  go_wp2_with fail
  refine (eqIntS_any _ _ _ _ _ _ _ _ _ (Rd.own oG) hrW).mono ?_
  rintro e w10 ⟨rfl, hb10⟩
  rw [decide_eq_true rfl]
  have hB10 := bstep hB9 hb10
  have hs10 := hb10.size
  replace k0 := (hb10.block _ (by omega)).trans k0
  replace hx1 := hx1.below hb10
  replace hM := hM.step hb10
  replace hrW := hrW.below hb10
  replace oG := own_below oG hb10
  clear hb10 hB9
  go_wp2_with fail
  refine (markIntS_any _ _ _ _ _ _ _ oG (by omega)).mono ?_
  rintro e w11 ⟨rfl, oH, hg11⟩
  have hB11 := bown hB10 oG (by omega) hg11
  have hs11 := hg11.size
  have hfrG := own_frees oG
  replace k0 := (hg11.block _ (by omega) (fun h => by have := hfrG _ h.symm; omega)).trans k0
  replace hrW := hrW.far hrW3 (by omega) oG hg11
  replace hM := hM.grown hg11 (fun k hk => by have := hfrG k hk; omega)
  replace hx1 := hx1.far hx (by omega) oG hg11
  clear hg11 hB10 oG hfrG
  go_wp2_with fail
  refine (heldIntS_any _ _ _ _ _ (Rd.own oH) (by omega)).mono ?_
  rintro e w12 ⟨rfl, hb12⟩
  have hB12 := bstep hB11 hb12
  have hs12 := hb12.size
  replace k0 := (hb12.block _ (by omega)).trans k0
  replace hx1 := hx1.below hb12
  replace hM := hM.step hb12
  replace hrW := hrW.below hb12
  replace oH := own_below oH hb12
  clear hb12 hB11
  obtain ⟨c0, c1, c2, c3, c4', c5'⟩ := six_cells k0
  go_wp2_with fail
  refine (toOld_any x A n c _ hx1 (by omega)).mono ?_
  rintro e w13 ⟨A13, c13, rfl, o13, hb13⟩
  have hB13 := bstep hB12 hb13
  replace hM := hM.step hb13
  replace hrW := hrW.below hb13
  replace oH := own_below oH hb13
  clear hb13 hB12 c0 c1 c2 c3 c4' c5' k0 hx1
  go_wp2_with fail
  refine (oldBytes_impl x A13 n c13 _ hM (Rd.own o13) (own_cap o13).1 (by omega) (by omega) _ _ hf.out).mono ?_
  rintro e w14 ⟨AK, nK, cK, rfl, oK, hb14⟩
  have hB14 := bstep hB13 hb14
  replace hrW := hrW.below hb14
  replace oH := own_below oH hb14
  clear hb14 hB13 hM o13
  go_wp2_with fail
  refine (eqIntS_any _ _ _ _ _ _ _ _ _ (Rd.own oK) hrW).mono ?_
  rintro e w15 ⟨rfl, hb15⟩
  rw [decide_eq_true rfl]
  have hB15 := bstep hB14 hb15
  replace oH := own_below oH hb15
  clear hb15 hB14 hrW oK
  go_wp2_with fail
  refine (heldIntS_any _ _ _ _ _ (Rd.own oH) (by omega)).mono ?_
  rintro e w16 ⟨rfl, hb16⟩
  go_wp2_with fail
  go_ret
  exact ⟨rfl, bstep hB15 hb16⟩

/-- A world for the witness: what the variables' door leaves, and the pinned table. -/
noncomputable def laidWorld_FnExactOldBytes (os : Os) : World :=
  { World.doorLaid Tryd.prog 19 os with heap := (World.doorLaid Tryd.prog 19 os).heap.modify 1 fun
      | .cells _ t frozen => .cells (Go.Pinned.utf8FirstZ.map fun (z : Nat) => Value.int .u8 (z : Int)).toArray t frozen
      | o => o }
theorem laid_met_FnExactOldBytes (os : Os) : laidMet Tryd.prog Rows.fnExactOldBytesRow.laid ((laidWorld_FnExactOldBytes os).forCall (fun _ _ => 0) ⟨#[], #[.agg #[.int .i64 0, .int .i64 0, .slice none 0 0, .string ByteArray.empty, .int .i64 0, .string ByteArray.empty]], []⟩).memory :=
  laidMet_of_run' 8 (by kernel_rfl) (by kernel_rfl)
theorem reads_FnExactOldBytes (os : Os) {H : Type} (enc : TypeId × Value → H) : ∃ places, DataW.whole enc Tryd.prog ((laidWorld_FnExactOldBytes os).forCall (fun _ _ => 0) ⟨#[], #[.agg #[.int .i64 0, .int .i64 0, .slice none 0 0, .string ByteArray.empty, .int .i64 0, .string ByteArray.empty]], []⟩).memory Tryd.f9.params.toList Rows.fnExactOldBytesSpec.vars false (#[.agg #[.int .i64 0, .int .i64 0, .slice none 0 0, .string ByteArray.empty, .int .i64 0, .string ByteArray.empty]] : Array Value).toList 8 = some ([.agg [.lit (.int .i64 0), .agg [.lit (.int .i64 0), .nil, .lit (.string []), .lit (.int .i64 0)], .lit (.string [])]], [], places) :=
  ⟨[], by kernel_rfl⟩
set_option maxRecDepth 100000 in
theorem lifted_FnExactOldBytes (os : Os) (started : os.Started) (H : Type) (enc : TypeId × Value → H) (F : Stop.Interp) :
    ReturnsInHanded {} Tryd.checked os 9 .any ((OpenSpec.ofChange Rows.fnExactOldBytesSpec).preRow enc Tryd.prog Tryd.f9 Rows.fnExactOldBytesRow.domain false Rows.fnExactOldBytesRow.laid) (((OpenSpec.ofChange Rows.fnExactOldBytesSpec).at F).post enc Tryd.prog Tryd.f9 false true false false) := by
  obtain ⟨places, hx⟩ := reads_FnExactOldBytes os enc
  refine returnsInHanded_of_row (C := Tryd.checked) (s := OpenSpec.ofChange Rows.fnExactOldBytesSpec) row_own started (by kernel_rfl) Tryd.func9
    (witness_row_at (enc := enc) (C := Tryd.checked) false (laidWorld_FnExactOldBytes os) #[.agg #[.int .i64 0, .int .i64 0, .slice none 0 0, .string ByteArray.empty, .int .i64 0, .string ByteArray.empty]] rfl (by kernel_rfl) (by kernel_rfl) (by kernel_rfl)
      (OpenSpec.preRow_of_cond 8 hx (by kernel_rfl) (fun k hk => by cases hk) (by kernel_rfl) (laid_met_FnExactOldBytes os))) ?_
  intro W base args ds gs before hval0 hW _ _ _ hL hsh _
  have hval : ∀ (j : Nat) t v, Tryd.f9.params[j]? = some t → args[j]? = some v → Value.okWide Tryd.prog W .any base t v := hval0
  have hW' := hW
  obtain ⟨p, q, hA0, hV, rfl, hfz, hnd⟩ := hW
  have hA : DataW.TrodAll enc Tryd.prog W 0 (fun _ => true) true Tryd.f9.params.toList args.toList ds p := hA0
  rw [Tryd.params9] at hA hval
  obtain ⟨v0, vs0, d0, ds0, p0, q0, hargs, rfl, rfl, h0, r0⟩ := trodAll_cons hA
  obtain ⟨rfl, rfl, rfl⟩ := trodAll_nil r0
  obtain rfl : args = #[v0] := by cases args; simp_all
  obtain ⟨rfl, rfl⟩ := trodVars_none hV
  have k0 := h0
  have lt0 : ∀ x ∈ p0, x.block < W.heap.size := by obtain ⟨m, hm⟩ := k0; exact DataW.trod_lt m _ _ _ hm
  obtain ⟨co0, ki0, a0, n0, c0, z0, s0, po0, us0, rfl, w0⟩ := old_open (hval 0 45 v0 rfl rfl) h0
  clear hA0 hval0
  have hM : EnvM W := envM_shaped hsh
  clear hL hsh
  refine (walk_FnExactOldBytes co0 ki0 a0 n0 c0 z0 s0 po0 us0 W w0 hM).mono fun e W' ⟨he, bel⟩ => ?_
  subst he
  exact ⟨_, rfl, _, _, _, [], _, [], hW', trodAll_mk1 (shut_bool Tryd.underlying4 _), (trodAll_cons_mk (Below.trod row_laidOut (by kernel_rfl) (of_decide_eq_true (by kernel_rfl)) k0 bel lt0) trodAll_mk0), rfl, bel.frame _, fun h => by cases h⟩

theorem over_FnExactOldBytes : Rows.FnExactOldBytesSaid :=
  OpenClaim.holds_of_cond 9 Tryd.f9 rfl rfl rfl rfl rfl rfl rfl ⟨rfl, rfl, rfl, rfl, rfl⟩ rfl rfl rfl rfl rfl (by kernel_rfl) Tryd.func9 (by kernel_rfl)
    (of_decide_eq_true (by kernel_rfl)) (by unfold Func.isWrapper; first | (rw [if_pos (by decide +kernel)]; kernel_rfl) | (rw [if_neg (by decide +kernel)]; exact ⟨rfl, rfl⟩))
    (fun os started H enc _ F => by rw [OpenClaim.pre_eq_preRow]; exact lifted_FnExactOldBytes os started H enc F)
theorem plain_FnExactOldBytes (f : FuncId) (fn : Func) (hf : Tryd.pinned.checked.prog.funcNamed "loop.example/proxyframes/laws.FnExactOldBytes" = some f) (hfn : Tryd.pinned.checked.prog.funcs[f]? = some fn) :
    false = Tryd.pinned.checked.prog.looks [] ∧ ∀ (j : Nat) t, fn.params[j]? = some t → Tryd.pinned.checked.prog.wantsStandIn t = false := by
  obtain rfl : f = 9 := Option.some.inj ((show Tryd.prog.funcNamed "loop.example/proxyframes/laws.FnExactOldBytes" = some 9 by kernel_rfl).symm.trans hf) |>.symm
  obtain rfl : fn = Tryd.f9 := (Option.some.inj (Tryd.func9.symm.trans hfn)).symm
  refine ⟨by kernel_rfl, fun j t ht => ?_⟩
  rw [Tryd.params9] at ht
  obtain rfl : t = 45 := by simpa using Array.mem_of_getElem? ht
  exact (show Tryd.prog.wantsStandIn 45 = false by kernel_rfl)

/-- The statement. -/
theorem fnExactOldBytes_holds : Rows.FnExactOldBytesCardSaid :=
  Claim7.holds_tied_plain_at .later [] _ _ _ _ over_FnExactOldBytes (fun _ h => by cases h) (by kernel_rfl) (fun _ h => by cases h) fnExactOldBytes_row_tie rfl ⟨rfl, rfl⟩ (by kernel_rfl) rfl plain_FnExactOldBytes (by kernel_rfl)
#print axioms fnExactOldBytes_holds
end Go.Proofs.YtjlgkepbflcefaaDoor
