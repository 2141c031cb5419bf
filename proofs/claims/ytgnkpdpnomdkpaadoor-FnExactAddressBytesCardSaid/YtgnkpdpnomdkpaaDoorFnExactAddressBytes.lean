/- The statement FnExactAddressBytes: the program's AddressBytes answers what the reference's answers, for every address. No condition. -/
import Derived.Test.YtgnkpdpnomdkpaaDoorCard
import Derived.Test.YtgnkpdpnomdkpaaDoorRowA
import Derived.Test.YtgnkpdpnomdkpaaDoorAB
import Derived.Deep.RegionWith
import Derived.Deep.DeepCutAuto
namespace Go.Proofs.YtgnkpdpnomdkpaaDoor
open Go.ChangeShapes Go.WideShapes Go.ChangeAt Go.RowKit
open Go.ChangeMaps (open_string shut_string)
theorem adW_length {a : Ad} {zs : List Int} {b : Bool} (h : adW a = (zs, b)) : zs.length ≤ 100 := by
  unfold adW at h
  split at h
  · next hv =>
    injection h with h _
    subst h
    have := adB_size hv
    omega
  · injection h with h _
    subst h
    simp
theorem own_two {w1 w2 w' : World} {B1 B2 : Nat} {e1 e2 : TypeId} {v1 v2 : Value} {n1 n2 : Nat} {xs1 xs2 : List Value} (h1 : w1.ownsRow B1 e1 1 v1 n1 xs1) (hB : w1.heap.size ≤ B2) (h2 : w2.ownsRow B2 e2 1 v2 n2 xs2) (hg : w2.grownBy w' v1.ownBlock) : w'.ownsRow B2 e2 1 v2 n2 xs2 := by
  refine h2.kept hg ?_
  cases ho : v2.ownBlock with
  | none => exact .inl rfl
  | some k =>
    refine .inr fun e => ?_
    have := (h2.lt k ho).1
    have := (h1.lt k e.symm).2
    omega
theorem EnvM.grown {w w' : World} {row : Option Nat} (h : EnvM w) (hg : w.grownBy w' row) (hr : ∀ k, row = some k → 0 < k) : EnvM w' := by
  obtain ⟨m, hm⟩ := h
  exact ⟨m, hg.cell hm fun e => by have := hr _ e.symm; simp at this⟩
theorem markAddress_any (B : Nat) (a : Ad) (A : Option Addr) (n c : Nat) (m : Int) (w : World) (ho : w.ownsRow B 3 1 (.slice A n c) n (ints a.quad)) (hm : 0 ≤ m ∧ m + n ≤ 9223372036854775807) :
    Calls Tryd.prog 24 #[adVal a A n c, .int .i64 m] w fun e w' => e = .returned (.int .i64 (m + n)) ∧ w'.ownsRow B 3 1 (.slice A n c) n (ints (marks m n)) ∧ w.grownBy w' (Value.ownBlock (.slice A n c)) := by
  go_enter Tryd.func24, Tryd.ntmps24
  go_wp2_with fail
  refine (markIntS_any B A n c a.quad m _ (ho.alloc _) hm).mono ?_
  rintro e w2 ⟨rfl, ho2, hg2⟩
  go_wp2_with fail
  go_ret
  exact ⟨rfl, ho2, grown_trans (World.grownBy_alloc w _ _) hg2⟩

set_option maxRecDepth 20000 in
set_option maxHeartbeats 4000000 in
theorem walk_FnExactAddressBytes (ki : Int) (A : Option Addr) (n c : Nat) (zs : List Int) (s : ByteArray) (po : Int) (w : World) (w0 : (Rd w A n (zs.map (Value.int .i64)) ∧ n ≤ c ∧ c ≤ maxLen) ∧ s.size ≤ maxLen) (hM : EnvM w) :
    Calls Tryd.prog 5 #[.agg #[.int .i64 ki, .slice A n c, .string s, .int .i64 po]] w fun e w' => e = .returned (.bool true) ∧ Below w.heap.size w w' := by
  obtain ⟨⟨hx, _, _⟩, hs⟩ := w0
  unfold maxLen at hs
  have hm := hx.max
  obtain ⟨a, ha⟩ : ∃ a : Ad, a = ⟨ki, zs, s, po⟩ := ⟨_, rfl⟩
  obtain ⟨rfl, rfl, rfl, rfl⟩ : ki = a.kind ∧ zs = a.quad ∧ s = a.name ∧ po = a.port := by subst ha; exact ⟨rfl, rfl, rfl, rfl⟩
  clear ha
  obtain ⟨q, hq⟩ : ∃ q : Int, q = if n + a.name.size ≤ 1048576 then 1048576 - (n : Int) - (a.name.size : Int) else -1 := ⟨_, rfl⟩
  obtain ⟨zs, b, hf⟩ : ∃ zs b, adW a = (zs, b) := ⟨_, _, rfl⟩
  have hzl : zs.length ≤ 100 := adW_length hf
  replace hf := Lib.hid hf
  have hqn : (n + a.name.size ≤ 1048576 ∧ 0 ≤ q) ∨ q < 0 := by rw [hq]; split <;> omega
  replace hq := Lib.hid hq
  go_enter Tryd.func5, Tryd.ntmps5
  go_wp2_with fail
  refine calls_gen fun wA hwA => ?_
  have k0 : wA.heap[w.heap.size]? = some (.cells #[.int .i64 a.kind, .slice A n c, .string a.name, .int .i64 a.port] 32 (0, 0)) := by
    rw [hwA]
    exact heap_alloc_new w _
  have hB0 : Below w.heap.size w wA := by rw [hwA]; go_grown
  have hs0 : w.heap.size < wA.heap.size := by rw [hwA]; simp
  clear hwA
  refine (szAddress_any a A n c _ hm (by omega) q hq.out).mono ?_
  rintro e w1 ⟨rfl, hb1⟩
  have hB1 := bstep hB0 hb1
  replace k0 := (hb1.block _ hs0).trans k0
  have hs1 := Nat.lt_of_lt_of_le hs0 hb1.size
  clear hb1 hB0
  rcases hqn with ⟨hsz, hq0⟩ | hq0
  case inr =>
    have hd : decide (q < 0) = true := by simpa using hq0
    go_wp2_with fail
    go_ret
    exact ⟨rfl, hB1⟩
  have hd : decide (q < 0) = false := by simpa using hq0
  obtain ⟨c0, c1, c2, c3⟩ := box_cells k0
  have hx1 := hx.below hB1
  replace hM := hM.step hB1
  go_wp2_with fail
  refine (toAddress_any a A n c _ hx1 (by omega)).mono ?_
  rintro e w2 ⟨A2, c2', rfl, ho2, hb2⟩
  have hr2 := Rd.own ho2
  have hB2 := bstep hB1 hb2
  replace k0 := (hb2.block _ hs1).trans k0
  have hs2 := Nat.lt_of_lt_of_le hs1 hb2.size
  replace hx1 := hx1.below hb2
  replace hM := hM.step hb2
  clear hb2 hB1 ho2 c0 c1 c2 c3
  go_wp2_with fail
  refine (addressBytes_spec a A2 n c2' _ hr2 (by omega) _ _ hf.out).mono ?_
  rintro e w3 ⟨AW, nW, cW, rfl, oW, hb3⟩
  have hB3 := bstep hB2 hb3
  have hs3 := Nat.lt_of_lt_of_le hs2 hb3.size
  replace k0 := (hb3.block _ (by omega)).trans k0
  replace hx1 := hx1.below hb3
  replace hM := hM.step hb3
  have hrW := Rd.own oW
  have hrW3 := hrW
  have hlW := hrW.ilen
  obtain ⟨c0, c1, c2, c3⟩ := box_cells k0
  clear hb3 hB2 hr2 oW
  go_wp2_with fail
  refine (toAddress_any a A n c _ hx1 (by omega)).mono ?_
  rintro e w4 ⟨A4, c4, rfl, o4, hb4⟩
  have o44 := o4
  have hB4 := bstep hB3 hb4
  have hs4 := Nat.lt_of_lt_of_le hs3 hb4.size
  have hz4 := hb4.size
  replace k0 := (hb4.block _ (by omega)).trans k0
  replace hx1 := hx1.below hb4
  replace hM := hM.step hb4
  replace hrW := hrW.below hb4
  clear hb4 hB3 c0 c1 c2 c3
  go_wp2_with fail
  refine calls_gen fun wB hwB => ?_
  have k5 : wB.heap[w4.heap.size]? = some (.cells #[.int .i64 a.kind, .slice A4 n c4, .string a.name, .int .i64 a.port] 25 (0, 0)) := by
    rw [hwB]
    exact heap_alloc_new w4 _
  have hb5 : Below w4.heap.size w4 wB := by rw [hwB]; go_grown
  have hs5 : wB.heap.size = w4.heap.size + 1 := by rw [hwB]; simp
  clear hwB
  have hB5 := bstep hB4 hb5
  replace k0 := (hb5.block _ (by omega)).trans k0
  replace hx1 := hx1.below hb5
  replace hM := hM.step hb5
  replace hrW := hrW.below hb5
  replace o4 := own_below o4 hb5
  clear hb5 hB4
  refine (addressBytes_impl a A4 n c4 _ hM (Rd.own o4) (by omega) _ _ hf.out).mono ?_
  rintro e w6 ⟨AG, nG, cG, rfl, oG, hb6⟩
  have hB6 := bstep hB5 hb6
  have hs6 := hb6.size
  replace k0 := (hb6.block _ (by omega)).trans k0
  replace k5 := (hb6.block _ (by omega)).trans k5
  replace hx1 := hx1.below hb6
  replace hM := hM.step hb6
  replace hrW := hrW.below hb6
  replace o4 := own_below o4 hb6
  have hlG := (Rd.own oG).ilen
  clear hb6 hB5
  have hbb : (b != b) = false := by simp
  go_wp2_with fail
  refine (eqIntS_any _ _ _ _ _ _ _ _ _ (Rd.own oG) hrW).mono ?_
  rintro e w7 ⟨rfl, hb7⟩
  rw [decide_eq_true rfl]
  have hB7 := bstep hB6 hb7
  have hs7 := hb7.size
  replace k0 := (hb7.block _ (by omega)).trans k0
  replace k5 := (hb7.block _ (by omega)).trans k5
  replace hx1 := hx1.below hb7
  replace hM := hM.step hb7
  replace hrW := hrW.below hb7
  replace o4 := own_below o4 hb7
  replace oG := own_below oG hb7
  clear hb7 hB6
  obtain ⟨c0, c1, c2, c3⟩ := box_cells k0
  obtain ⟨d0, d1, d2, d3⟩ := box_cells k5
  have hr4 := Rd.own o4
  replace k5 := Lib.hid k5
  replace k0 := Lib.hid k0
  go_upto_region 10 with fail
  go_cut [45] (fun v wx => v = .bool false ∧ Below w7.heap.size w7 wx)
  case first =>
    go_region_with (first
      | (go_at_call 21
         refine (toAddress_any a A n c _ ?_ (by omega)).mono ?_
         exact hx1
         rintro e w8 ⟨A8, c8, rfl, ho8, hb8⟩
         have hr8 := Rd.own ho8
         have hlt8 : w4.heap.size < w7.drew.heap.size := show w4.heap.size < w7.heap.size by omega
         obtain ⟨f0, f1, f2, f3⟩ := box_cells ((hb8.block _ hlt8).trans k5.out)
         have hr48 := Rd.below (w := w7.drew) hr4 hb8)
      | (go_at_call 23
         refine (eqAddress_same a A4 n c4 A8 n c8 _ ?_ ?_).mono ?_
         exact hr48
         exact hr8
         rintro e w9 ⟨rfl, hb9⟩))
    all_goals
      go_wp2_with fail
      go_meet
      exact ⟨rfl, bstep (below_drew hb8) hb9⟩
  case rest =>
  obtain ⟨rfl, hb8⟩ := hcut
  replace k0 := k0.out
  replace k5 := k5.out
  have hB8 := bstep hB7 hb8
  have hs8 := hb8.size
  replace k0 := (hb8.block _ (by omega)).trans k0
  replace k5 := (hb8.block _ (by omega)).trans k5
  replace hx1 := hx1.below hb8
  replace hM := hM.step hb8
  replace hrW := hrW.below hb8
  replace o4 := own_below o4 hb8
  replace oG := own_below oG hb8
  clear hb8 hB7 hr4 c0 c1 c2 c3 d0 d1 d2 d3
  obtain ⟨d0, d1, d2, d3⟩ := box_cells k5
  go_wp2_with fail
  refine (markAddress_any _ a A4 n c4 1 _ o4 (by omega)).mono ?_
  rintro e w9 ⟨rfl, o9, hg9⟩
  have hB9 := bown hB8 o4 (by omega) hg9
  have hs9 := hg9.size
  have hfr := o44.lt
  have hfr4 : ∀ k, Value.ownBlock (.slice A4 n c4) = some k → w3.heap.size ≤ k ∧ k < w4.heap.size := hfr
  replace k0 := (hg9.block _ (by omega) (fun h => by have := hfr4 _ h.symm; omega)).trans k0
  replace hrW := hrW.far hrW3 (Nat.le_refl _) o4 hg9
  replace oG := own_two o44 (by omega) oG hg9
  replace hM := hM.grown hg9 (fun k hk => by have := hfr4 k hk; omega)
  replace hx1 := hx1.far hx (by omega) o4 hg9
  clear hg9 hB8 d0 d1 d2 d3 k5 o4 o9 hfr hfr4
  go_wp2_with fail
  refine (eqIntS_any _ _ _ _ _ _ _ _ _ (Rd.own oG) hrW).mono ?_
  rintro e w10 ⟨rfl, hb10⟩
  rw [decide_eq_true rfl]
  have hB10 := bstep hB9 hb10
  have hs10 := hb10.size
  replace k0 := (hb10.block _ (by omega)).trans k0
  replace hx1 := hx1.below hb10
  replace hM := hM.step hb10
  replace hrW := hrW.below hb10
  replace oG := own_below oG hb10
  clear hb10 hB9
  go_wp2_with fail
  refine (markIntS_any _ _ _ _ _ _ _ oG (by omega)).mono ?_
  rintro e w11 ⟨rfl, oH, hg11⟩
  have hB11 := bown hB10 oG (by omega) hg11
  have hs11 := hg11.size
  have hfrG := own_frees oG
  replace k0 := (hg11.block _ (by omega) (fun h => by have := hfrG _ h.symm; omega)).trans k0
  replace hrW := hrW.far hrW3 (by omega) oG hg11
  replace hM := hM.grown hg11 (fun k hk => by have := hfrG k hk; omega)
  replace hx1 := hx1.far hx (by omega) oG hg11
  clear hg11 hB10 oG hfrG
  go_wp2_with fail
  refine (heldIntS_any _ _ _ _ _ (Rd.own oH) (by omega)).mono ?_
  rintro e w12 ⟨rfl, hb12⟩
  have hB12 := bstep hB11 hb12
  have hs12 := hb12.size
  replace k0 := (hb12.block _ (by omega)).trans k0
  replace hx1 := hx1.below hb12
  replace hM := hM.step hb12
  replace hrW := hrW.below hb12
  replace oH := own_below oH hb12
  clear hb12 hB11
  obtain ⟨c0, c1, c2, c3⟩ := box_cells k0
  go_wp2_with fail
  refine (toAddress_any a A n c _ hx1 (by omega)).mono ?_
  rintro e w13 ⟨A13, c13, rfl, o13, hb13⟩
  have hB13 := bstep hB12 hb13
  replace hM := hM.step hb13
  replace hrW := hrW.below hb13
  replace oH := own_below oH hb13
  clear hb13 hB12 c0 c1 c2 c3 k0 hx1
  go_wp2_with fail
  refine (addressBytes_impl a A13 n c13 _ hM (Rd.own o13) (by omega) _ _ hf.out).mono ?_
  rintro e w14 ⟨AK, nK, cK, rfl, oK, hb14⟩
  have hB14 := bstep hB13 hb14
  replace hrW := hrW.below hb14
  replace oH := own_below oH hb14
  clear hb14 hB13 hM o13
  go_wp2_with fail
  refine (eqIntS_any _ _ _ _ _ _ _ _ _ (Rd.own oK) hrW).mono ?_
  rintro e w15 ⟨rfl, hb15⟩
  rw [decide_eq_true rfl]
  have hB15 := bstep hB14 hb15
  replace oH := own_below oH hb15
  clear hb15 hB14 hrW oK
  go_wp2_with fail
  refine (heldIntS_any _ _ _ _ _ (Rd.own oH) (by omega)).mono ?_
  rintro e w16 ⟨rfl, hb16⟩
  go_wp2_with fail
  go_ret
  exact ⟨rfl, bstep hB15 hb16⟩

/-- A world for the witness: what the variables' door leaves, and the pinned table. -/
noncomputable def laidWorld_FnExactAddressBytes (os : Os) : World :=
  { World.doorLaid Tryd.prog 19 os with heap := (World.doorLaid Tryd.prog 19 os).heap.modify 1 fun
      | .cells _ t frozen => .cells (Go.Pinned.utf8FirstZ.map fun (z : Nat) => Value.int .u8 (z : Int)).toArray t frozen
      | o => o }
theorem laid_met_FnExactAddressBytes (os : Os) : laidMet Tryd.prog Rows.fnExactAddressBytesRow.laid ((laidWorld_FnExactAddressBytes os).forCall (fun _ _ => 0) ⟨#[], #[.agg #[.int .i64 0, .slice none 0 0, .string ByteArray.empty, .int .i64 0]], []⟩).memory :=
  laidMet_of_run' 8 (by kernel_rfl) (by kernel_rfl)
theorem reads_FnExactAddressBytes (os : Os) {H : Type} (enc : TypeId × Value → H) : ∃ places, DataW.whole enc Tryd.prog ((laidWorld_FnExactAddressBytes os).forCall (fun _ _ => 0) ⟨#[], #[.agg #[.int .i64 0, .slice none 0 0, .string ByteArray.empty, .int .i64 0]], []⟩).memory Tryd.f5.params.toList Rows.fnExactAddressBytesSpec.vars false (#[.agg #[.int .i64 0, .slice none 0 0, .string ByteArray.empty, .int .i64 0]] : Array Value).toList 8 = some ([.agg [.lit (.int .i64 0), .nil, .lit (.string []), .lit (.int .i64 0)]], [], places) :=
  ⟨[], by kernel_rfl⟩
set_option maxRecDepth 100000 in
theorem lifted_FnExactAddressBytes (os : Os) (started : os.Started) (H : Type) (enc : TypeId × Value → H) (F : Stop.Interp) :
    ReturnsInHanded {} Tryd.checked os 5 .any ((OpenSpec.ofChange Rows.fnExactAddressBytesSpec).preRow enc Tryd.prog Tryd.f5 Rows.fnExactAddressBytesRow.domain false Rows.fnExactAddressBytesRow.laid) (((OpenSpec.ofChange Rows.fnExactAddressBytesSpec).at F).post enc Tryd.prog Tryd.f5 false true false false) := by
  obtain ⟨places, hx⟩ := reads_FnExactAddressBytes os enc
  refine returnsInHanded_of_row (C := Tryd.checked) (s := OpenSpec.ofChange Rows.fnExactAddressBytesSpec) row_own started (by kernel_rfl) Tryd.func5
    (witness_row_at (enc := enc) (C := Tryd.checked) false (laidWorld_FnExactAddressBytes os) #[.agg #[.int .i64 0, .slice none 0 0, .string ByteArray.empty, .int .i64 0]] rfl (by kernel_rfl) (by kernel_rfl) (by kernel_rfl)
      (OpenSpec.preRow_of_cond 8 hx (by kernel_rfl) (fun k hk => by cases hk) (by kernel_rfl) (laid_met_FnExactAddressBytes os))) ?_
  intro W base args ds gs before hval0 hW _ _ _ hL hsh _
  have hval : ∀ (j : Nat) t v, Tryd.f5.params[j]? = some t → args[j]? = some v → Value.okWide Tryd.prog W .any base t v := hval0
  have hW' := hW
  obtain ⟨p, q, hA0, hV, rfl, hfz, hnd⟩ := hW
  have hA : DataW.TrodAll enc Tryd.prog W 0 (fun _ => true) true Tryd.f5.params.toList args.toList ds p := hA0
  rw [Tryd.params5] at hA hval
  obtain ⟨v0, vs0, d0, ds0, p0, q0, hargs, rfl, rfl, h0, r0⟩ := trodAll_cons hA
  obtain ⟨rfl, rfl, rfl⟩ := trodAll_nil r0
  obtain rfl : args = #[v0] := by cases args; simp_all
  obtain ⟨rfl, rfl⟩ := trodVars_none hV
  have k0 := h0
  have lt0 : ∀ x ∈ p0, x.block < W.heap.size := by obtain ⟨m, hm⟩ := k0; exact DataW.trod_lt m _ _ _ hm
  obtain ⟨ki0, a0, n0, c0, z0, s0, po0, rfl, w0⟩ := address_open (hval 0 32 v0 rfl rfl) h0
  clear hA0 hval0
  have hM : EnvM W := envM_shaped hsh
  clear hL hsh
  refine (walk_FnExactAddressBytes ki0 a0 n0 c0 z0 s0 po0 W w0 hM).mono fun e W' ⟨he, bel⟩ => ?_
  subst he
  exact ⟨_, rfl, _, _, _, [], _, [], hW', trodAll_mk1 (shut_bool Tryd.underlying4 _), (trodAll_cons_mk (Below.trod row_laidOut (by kernel_rfl) (of_decide_eq_true (by kernel_rfl)) k0 bel lt0) trodAll_mk0), rfl, bel.frame _, fun h => by cases h⟩

theorem over_FnExactAddressBytes : Rows.FnExactAddressBytesSaid :=
  OpenClaim.holds_of_cond 5 Tryd.f5 rfl rfl rfl rfl rfl rfl rfl ⟨rfl, rfl, rfl, rfl, rfl⟩ rfl rfl rfl rfl rfl (by kernel_rfl) Tryd.func5 (by kernel_rfl)
    (of_decide_eq_true (by kernel_rfl)) (by unfold Func.isWrapper; first | (rw [if_pos (by decide +kernel)]; kernel_rfl) | (rw [if_neg (by decide +kernel)]; exact ⟨rfl, rfl⟩))
    (fun os started H enc _ F => by rw [OpenClaim.pre_eq_preRow]; exact lifted_FnExactAddressBytes os started H enc F)
theorem plain_FnExactAddressBytes (f : FuncId) (fn : Func) (hf : Tryd.pinned.checked.prog.funcNamed "loop.example/proxyframes/laws.FnExactAddressBytes" = some f) (hfn : Tryd.pinned.checked.prog.funcs[f]? = some fn) :
    false = Tryd.pinned.checked.prog.looks [] ∧ ∀ (j : Nat) t, fn.params[j]? = some t → Tryd.pinned.checked.prog.wantsStandIn t = false := by
  obtain rfl : f = 5 := Option.some.inj ((show Tryd.prog.funcNamed "loop.example/proxyframes/laws.FnExactAddressBytes" = some 5 by kernel_rfl).symm.trans hf) |>.symm
  obtain rfl : fn = Tryd.f5 := (Option.some.inj (Tryd.func5.symm.trans hfn)).symm
  refine ⟨by kernel_rfl, fun j t ht => ?_⟩
  rw [Tryd.params5] at ht
  obtain rfl : t = 32 := by simpa using Array.mem_of_getElem? ht
  exact (show Tryd.prog.wantsStandIn 32 = false by kernel_rfl)

/-- The statement. -/
theorem fnExactAddressBytes_holds : Rows.FnExactAddressBytesCardSaid :=
  Claim7.holds_tied_plain_at .later [] _ _ _ _ over_FnExactAddressBytes (fun _ h => by cases h) (by kernel_rfl) (fun _ h => by cases h) fnExactAddressBytes_row_tie rfl ⟨rfl, rfl⟩ (by kernel_rfl) rfl plain_FnExactAddressBytes (by kernel_rfl)
#print axioms fnExactAddressBytes_holds
end Go.Proofs.YtgnkpdpnomdkpaaDoor
