/- The four bytes of a text, in the program. No condition. -/
import Derived.Test.YthgfldabeaepaaaGreatDoorQFS
import Derived.Test.YthgfldabeaepaaaGreatDoorTen
namespace Go.Proofs.YthgfldabeaepaaaGreatDoor
open Go.RowKit
/-- An error, or none. -/
def IfaceV (v : Value) : Prop := v = .nilIface ∨ ∃ te pe, v = .iface te pe
/-- The two errors' variables hold errors. -/
def EnvE (w : World) : Prop := (∃ v, w.cell? ⟨1, 0, none⟩ = some v ∧ IfaceV v) ∧ ∃ v, w.cell? ⟨2, 0, none⟩ = some v ∧ IfaceV v
theorem EnvE.step {w w' : World} (h : EnvE w) (hb : Below w.heap.size w w') : EnvE w' := by
  obtain ⟨⟨v, hv, hi⟩, u, hu, hj⟩ := h
  exact ⟨⟨v, (hb.cell (World.block_lt_of_cell? w _ hv)).trans hv, hi⟩, u, (hb.cell (World.block_lt_of_cell? w _ hu)).trans hu, hj⟩
theorem starErr : "*" ++ "errors.errorString" = "*errors.errorString" := by decide
theorem rowErr (u : TypeId) (h : Tryz.prog.typeName? 3 u = some "*errors.errorString") : u = 107 :=
  typeName_ptr_named (nm := "errors.errorString") (by rw [starErr]; kernel_rfl) (by kernel_rfl) (by decide) u (by rw [starErr]; exact h)
theorem synNamed : Tryz.prog.globalNamed "strconv.ErrSyntax" = some 1 := by kernel_rfl
theorem rngNamed : Tryz.prog.globalNamed "strconv.ErrRange" = some 2 := by kernel_rfl
theorem envE_laid {W : World} {l l' : List (String × DataW Unit)} (h : laidMet Tryz.prog (("strconv.ErrSyntax", Rows.laid_strconv_ErrSyntax) :: l) W) (h' : laidMet Tryz.prog (("strconv.ErrRange", Rows.laid_strconv_ErrRange) :: l') W) : EnvE W := by
  obtain ⟨a, s, hv, _⟩ := laid_sentinel h synNamed (by kernel_rfl) Tryz.underlying59 rowErr Tryz.underlying107 Tryz.underlying109 rfl rfl Tryz.underlying9 (by kernel_rfl) (by kernel_rfl)
  obtain ⟨b, t, hu, _⟩ := laid_sentinel h' rngNamed (by kernel_rfl) Tryz.underlying59 rowErr Tryz.underlying107 Tryz.underlying109 rfl rfl Tryz.underlying9 (by kernel_rfl) (by kernel_rfl)
  exact ⟨⟨_, by simpa using World.var?_cell synNamed hv 0, .inr ⟨_, _, rfl⟩⟩, _, by simpa using World.var?_cell rngNamed hu 0, .inr ⟨_, _, rfl⟩⟩
/-- What the library's calls find: three kinds of variables. -/
abbrev Env3 (w : World) : Prop := EnvM w ∧ EnvP w ∧ EnvE w
theorem Env3.step {w w' : World} (h : Env3 w) (hb : Below w.heap.size w w') : Env3 w' := ⟨h.1.step hb, h.2.1.step hb, h.2.2.step hb⟩
theorem cell_same {w w' : World} {a : Addr} (h : w'.heap[a.block]? = w.heap[a.block]?) : w'.cell? a = w.cell? a := by
  unfold World.cell?
  rw [h]
theorem Env3.blocks {w0 w w' : World} (h : Env3 w) (h0 : Env3 w0) (hk : ∀ g, g < w0.heap.size → w'.heap[g]? = w.heap[g]?) : Env3 w' := by
  obtain ⟨⟨m, hm⟩, hP, ⟨v, hv, hi⟩, u, hu, hj⟩ := h
  obtain ⟨hM0, hP0, ⟨v0, hv0, _⟩, u0, hu0, _⟩ := h0
  refine ⟨⟨m, (cell_same (hk _ hM0.lt)).trans hm⟩, ?_, ⟨v, (cell_same (hk _ (World.block_lt_of_cell? w0 _ hv0))).trans hv, hi⟩, u, (cell_same (hk _ (World.block_lt_of_cell? w0 _ hu0))).trans hu, hj⟩
  have hlt := hP0.lt
  unfold EnvP Lib.TabIs World.var? at hP ⊢
  rw [tenNamed, Option.bind_some] at hP ⊢
  rw [hk _ hlt]
  exact hP
/-- They lie still behind a store into a row made later. -/
theorem Env3.far {w0 w w' w1 : World} {base : Nat} {e : TypeId} {v : Value} {m : Nat} {us : List Value} (h : Env3 w) (h0 : Env3 w0) (hs : w0.heap.size ≤ w.heap.size) (hB : w0.heap.size ≤ base) (ho : w1.ownsRow base e 1 v m us) (hg : w.grownBy w' v.ownBlock) : Env3 w' :=
  h.blocks h0 fun g hlt => hg.block g (by omega) (fun hne => by have := (ho.lt g hne.symm).1; omega)
/-- What Atoi tells: a number or none, and an error. -/
def AtoiV (w : World) (s : ByteArray) (e : Ending) (w' : World) : Prop :=
  ∃ (v : Int) (er : Value), e = .returned (.tuple #[.int .i64 v, er]) ∧ -9223372036854775808 ≤ v ∧ v ≤ 9223372036854775807 ∧ ((Lib.atoiAll (lets s) = .ok v ∧ er = .nilIface) ∨ ((∀ u, Lib.atoiAll (lets s) ≠ .ok u) ∧ ∃ te pe, er = .iface te pe)) ∧ Below w.heap.size w w'
theorem atoi_any (s : ByteArray) (w : World) (hs : s.size ≤ 4000000) (hE : EnvE w) : Calls Tryz.prog 33 #[.string s] w (AtoiV w s) := by
  obtain ⟨⟨v, hv, hi⟩, u, hu, hj⟩ := hE
  cases ha : Lib.atoiAll (lets s) with
  | ok x =>
    obtain ⟨h0, h1⟩ := Lib.atoiAll_bounds ha
    refine (Tryz.strconv_Atoi_ok s (by omega) x ha w).mono ?_
    rintro e w' ⟨rfl, hw⟩
    refine ⟨x, .nilIface, rfl, by omega, by omega, .inl ⟨ha, rfl⟩, ?_⟩
    rcases hw with rfl | ⟨t, rfl⟩
    · exact Below.refl _ _
    · exact Lib.bytesWorld_below _ _ _
  | «syntax» =>
    refine (Tryz.strconv_Atoi_syntax s (by omega) ha v w hv hi).mono ?_
    rintro e w' ⟨N, rfl, _, _, hb⟩
    exact ⟨0, _, rfl, by omega, by omega, .inr ⟨fun u hu => (by rw [ha] at hu; cases hu), _, _, rfl⟩, hb⟩
  | range =>
    obtain ⟨h0, h1⟩ := Lib.atoiSat_bounds (lets s)
    refine (Tryz.strconv_Atoi_range s (by omega) ha u w hu hj).mono ?_
    rintro e w' ⟨N, rfl, _, _, hb⟩
    exact ⟨_, _, rfl, by omega, by omega, .inr ⟨fun u hu => (by rw [ha] at hu; cases hu), _, _, rfl⟩, hb⟩
theorem decO_ok {l : List UInt8} {v : Int} (h : Lib.atoiAll l = .ok v) : decO l = if Lib.itoa v = l then some v else none := by
  unfold decO
  rw [h]
theorem decO_no {l : List UInt8} (h : ∀ u, Lib.atoiAll l ≠ .ok u) : decO l = none := by
  unfold decO
  split
  · rename_i v hv
    exact absurd hv (h v)
  · rfl
/-- What decimal tells. -/
def RetD (w : World) (s : ByteArray) (e : Ending) (w' : World) : Prop :=
  ∃ (v : Int) (b : Bool), e = .returned (.tuple #[.int .i64 v, .bool b]) ∧ (b = true → decO (lets s) = some v) ∧ (b = false → decO (lets s) = none) ∧ -9223372036854775808 ≤ v ∧ v ≤ 9223372036854775807 ∧ Below w.heap.size w w'
set_option maxRecDepth 20000 in
set_option maxHeartbeats 1000000 in
theorem decimal_any (s : ByteArray) (w : World) (hs : s.size ≤ 4000000) (hV : Env3 w) : Calls Tryz.prog 16 #[.string s] w (RetD w s) := by
  obtain ⟨_, hP, hE⟩ := hV
  go_enter Tryz.func16, Tryz.ntmps16
  go_wp2_with fail
  refine (atoi_any s _ hs hE).mono ?_
  rintro e w1 ⟨v, er, rfl, h0, h1, hcase, hB1⟩
  rcases hcase with ⟨ha, rfl⟩ | ⟨ha, te, pe, rfl⟩
  · have hd := decO_ok ha
    replace hP := hP.step hB1
    replace ha := Lib.hid ha
    go_wp2_with fail
    refine (itoa_any v h0 h1 _ hP).mono ?_
    rintro e w2 ⟨rfl, hB2⟩
    have hb2 := bstep hB1 hB2
    by_cases hv : Lib.itoa v = lets s
    · rw [if_pos hv] at hd
      have hv' : txt (Lib.itoa v) = s := lets_inj (by rw [lets_txt]; exact hv)
      replace hv := Lib.hid hv
      replace hd := Lib.hid hd
      rw [show (⟨(Lib.itoa v).toArray⟩ : ByteArray) = s from hv']
      go_wp2_with fail
      go_ret2
      exact ⟨v, true, rfl, fun _ => hd.out, fun h => (by cases h), h0, h1, hb2⟩
    · rw [if_neg hv] at hd
      have hv' : (Lib.itoa v == s.toList) = false := by
        rw [beq_eq_false_iff_ne, text_toList]
        exact hv
      replace hv := Lib.hid hv
      replace hd := Lib.hid hd
      go_wp2_with fail
      go_ret2
      exact ⟨v, false, rfl, fun h => (by cases h), fun _ => hd.out, h0, h1, hb2⟩
  · have hd := decO_no ha
    replace ha := Lib.hid ha
    replace hd := Lib.hid hd
    go_wp2_with fail
    go_ret2
    exact ⟨v, false, rfl, fun h => (by cases h), fun _ => hd.out, h0, h1, hB1⟩
theorem piece_at {ps : List ByteArray} {c : UInt8} {l : List UInt8} {k : Nat} {p : ByteArray} (h : ps.map lets = pieces c l) (hp : ps[k]? = some p) : (pieces c l)[k]? = some (lets p) := by
  rw [← h, List.getElem?_map, hp]
  rfl
theorem map_decO {ps : List ByteArray} {c : UInt8} {l : List UInt8} (h : ps.map lets = pieces c l) : ps.map (fun p => decO (lets p)) = (pieces c l).map decO := by
  rw [← h]
  simp
set_option maxRecDepth 20000 in
set_option maxHeartbeats 2000000 in
theorem quadFrom_impl (s : ByteArray) (w : World) (hs : s.size ≤ 2000000) (hV : Env3 w) (q : List Int) (b : Bool) (h : quadF (lets s) = (q, b)) :
    Calls Tryz.prog 17 #[.string s] w (RetIB w q b) := by
  obtain ⟨i0, hi, hz0, hz1, hz2⟩ := info_parts Tryz.infoInt
  replace h := Lib.hid h
  go_enter Tryz.func17, Tryz.ntmps17
  go_wp2_with fail
  refine (split_any s 46 _ hV.1 (by omega)).mono ?_
  rintro e w1 ⟨A, n, cap, ps, rfl, hps, hr1, hcap, hB1⟩
  have hsz1 := hB1.size
  replace hV := hV.step hB1
  have hnl : n ≤ 2000001 := by
    have h1 := hr1.slen
    have h2 := pieces_room hps
    omega
  replace hps := Lib.hid hps
  go_wp2
  go_loopw [4, 12] (fun v i wr => ∃ (k : Nat) (B : Option Addr) (c : Nat) (qs : List Int), k ≤ n ∧ i = .int .i64 k ∧ v = .slice B k c ∧ Hid ((ps.take k).map (fun p => decO (lets p)) = qs.map some) ∧ wr.ownsRow w1.heap.size 3 1 (.slice B k c) k (ints qs) ∧ Below w1.heap.size w1 wr) (fun _ i _ => n - (intOf i).toNat)
  case atStart => exact ⟨0, none, 0, [], Nat.zero_le _, rfl, rfl, rfl, World.ownsRow_nil _ _ _ _, Below.refl _ _⟩
  case round =>
    obtain ⟨k, B, c, qs, hk, rfl, rfl, hqs, hown, hb⟩ := hrel
    have hsz := hb.size
    have hrd := hr1.below hb
    have hV1 := hV.step hb
    by_cases hlt : k < n
    · obtain ⟨b1, o1, p, rfl, hpk, hcp⟩ := hrd.str hlt
      have hps1 := piece_size hps.out hpk
      replace hpk := Lib.hid hpk
      go_wp2_with fail
      refine (decimal_any p _ (by omega) hV1).mono ?_
      rintro e w2 ⟨x, bb, rfl, hok, hno, _, _, hB2⟩
      have hb2 := bstep hb hB2
      have hown2 := own_below hown hB2
      have hsz2 := hb2.size
      clear hB2 hb hown hrd hV1
      cases bb with
      | false =>
        have hnone := hno rfl
        have hbad := quadF_part (List.mem_of_getElem? (piece_at hps.out hpk.out)) hnone
        rw [h.out] at hbad
        injection hbad with hb1 hb3
        subst hb1 hb3
        replace hnone := Lib.hid hnone
        go_wp2_with fail
        go_ret2
        exact ⟨_, 0, _, rfl, World.ownsRow_nil _ _ _ _, bstep hB1 hb2⟩
      | true =>
        have hsome := hok rfl
        have hqs' : Hid ((ps.take (k + 1)).map (fun p => decO (lets p)) = (qs ++ [x]).map some) := by
          show _ = _
          rw [List.take_add_one, hpk.out, List.map_append, List.map_append, hqs.out]
          simp [hsome]
        replace hsome := Lib.hid hsome
        clear hok hno hqs
        have h1c := ints_oneCell .i64 [x]
        have h63 : k + 1 ≤ maxLen := by unfold maxLen; omega
        have hbb : (k + 1) * 8 ≤ 140737488355328 := by omega
        have hbase : w1.heap.size ≤ (w2.alloc (.cells #[.int .i64 x] 3)).heap.size := by simp; omega
        go_wp2_with (at_builtin; refine wpList_append_own _ rfl _ _ 24 rfl w1.heap.size 3 i0 (.int .i64 0) 1 8 Tryz.underlying24 hi hz0 hz1 hz2 rfl (by decide) _ _ _ rfl (hown2.alloc _) ⟨w2.heap.size, 0, none⟩ 1 1 [.int .i64 x] rfl rfl (cell_one_new _ _ _) h1c h63 hbb hbase ?_)
        intro v' w3 hown1 hg1 _
        replace hown1 : w3.ownsRow w1.heap.size 3 1 v' (k + 1) (ints (qs ++ [x])) := by simpa only [ints, List.map_append, List.map_cons, List.map_nil] using hown1
        obtain ⟨B', c', rfl, _, _⟩ := own_form hown1
        have hb1 := (hb2.alloc hsz2 (.cells #[.int .i64 x] 3)).grown hg1 hbase (own_frees hown2)
        clear h1c h63 hbb hbase hg1 hown2 hb2
        go_wp2
        go_roundw
        case rel => exact ⟨k + 1, B', c', _, by omega, by go_num, rfl, hqs', hown1, hb1⟩
        case measure => simp [intOf]; omega
    · have hk' : k = n := by omega
      subst hk'
      have hall : ps.take k = ps := List.take_of_length_le (Nat.le_of_eq hrd.slen)
      have hqs' := hqs.out
      rw [hall, map_decO hps.out] at hqs'
      have hfin := quadF_parts hqs'
      rw [h.out] at hfin
      have hnk : ¬ (k : Int) < (k : Int) := by omega
      obtain ⟨r, hr⟩ : ∃ r, qv qs = r := ⟨_, rfl⟩
      rw [hr] at hfin
      replace hfin := Lib.hid hfin
      replace hr := Lib.hid hr
      clear hqs hqs' hall
      go_wp2_with fail
      refine (quadValid_impl _ _ _ _ _ (Rd.own hown) _ hr.out).mono ?_
      rintro e w2 ⟨rfl, rfl⟩
      cases r with
      | true =>
        have hf := hfin.out
        simp only [if_true] at hf
        injection hf with h1 h2
        subst h1 h2
        go_wp2_with fail
        go_ret2
        exact ⟨B, k, c, rfl, own_base hown hB1.size, bstep hB1 hb⟩
      | false =>
        have hf := hfin.out
        simp only [Bool.false_eq_true, if_false] at hf
        injection hf with h1 h2
        subst h1 h2
        go_wp2_with fail
        go_ret2
        exact ⟨_, 0, _, rfl, World.ownsRow_nil _ _ _ _, bstep hB1 hb⟩
end Go.Proofs.YthgfldabeaepaaaGreatDoor
