/- The address of a text, in the program. No condition. -/
import Derived.Test.YthgfldabeaepaaaGreatDoorAdP
namespace Go.Proofs.YthgfldabeaepaaaGreatDoor
open Go.RowKit
theorem cut_any (s : ByteArray) (w : World) (hM : EnvM w) (hs : s.size ≤ 4000000) :
    Calls Tryz.prog 15 #[.string s, .string ⟨#[58]⟩] w fun e w' => ∃ (H T : ByteArray) (f : Bool), e = .returned (.tuple #[.string H, .string T, .bool f]) ∧ ((58 ∉ lets s ∧ T = ⟨#[]⟩) ∨ (lets s = lets H ++ 58 :: lets T ∧ 58 ∉ lets H)) ∧ H.size ≤ s.size ∧ T.size ≤ s.size ∧ Below w.heap.size w w' := by
  obtain ⟨m, hm⟩ := hM
  refine (Tryz.strings_Cut s ⟨#[58]⟩ m w (by omega) hm).mono ?_
  rintro e w' ⟨rfl, n, rfl⟩
  have hB := bdrewN (Below.refl w.heap.size w) n
  rcases cut_cases 58 s.data.toList with ⟨hn, hc⟩ | ⟨h, t, hst, hn, hc⟩
  · have e1 : Lib.cut s.data.toList (⟨#[58]⟩ : ByteArray).data.toList = (s.data.toList, [], false) := hc
    rw [e1]
    refine ⟨s, ⟨#[]⟩, false, ?_, .inl ⟨hn, rfl⟩, Nat.le_refl _, by show (0 : Nat) ≤ _; omega, hB⟩
    show Ending.returned (.tuple #[.string (txt (lets s)), .string ⟨#[]⟩, .bool false]) = _
    rw [txt_lets]
  · have e1 : Lib.cut s.data.toList (⟨#[58]⟩ : ByteArray).data.toList = (h, t, true) := hc
    have hl := congrArg List.length hst
    rw [List.length_append, List.length_cons] at hl
    have hl2 : s.data.toList.length = s.size := lets_length s
    rw [e1]
    refine ⟨txt h, txt t, true, rfl, .inr ⟨?_, ?_⟩, ?_, ?_, hB⟩
    · rw [lets_txt, lets_txt]
      exact hst
    · rw [lets_txt]
      exact hn
    · rw [txt_size]
      omega
    · rw [txt_size]
      omega
theorem decO_empty : decO [] = none := rfl
set_option maxRecDepth 20000 in
set_option maxHeartbeats 8000000 in
theorem addressFrom_impl (s : ByteArray) (w : World) (hs : s.size ≤ 2000000) (hV : Env3 w) (a : Ad) (b : Bool) (h : adF (lets s) = (a, b)) :
    Calls Tryz.prog 5 #[.string s] w (RetAF w a b) := by
  have hno := adF_no a h
  have hV0 := hV
  replace h := Lib.hid h
  replace hno := Lib.hid hno
  go_enter Tryz.func5, Tryz.ntmps5
  go_wp2_with fail
  refine calls_gen fun wA hwA => ?_
  have k0 : wA.heap[w.heap.size]? = some (.cells #[.int .i64 0, .slice none 0 0, .string ⟨#[]⟩, .int .i64 0] 26 (0, 0)) := by
    rw [hwA]
    exact heap_alloc_new w _
  have hBA : Below w.heap.size w wA := by rw [hwA]; go_grown
  have hsA : wA.heap.size = w.heap.size + 1 := by rw [hwA]; simp
  clear hwA
  replace hV := hV.step hBA
  refine (cut_any s _ hV.1 (by omega)).mono ?_
  rintro e w1 ⟨H, T, f, rfl, hcase, hH, hT, hb1⟩
  have hB1 := bstep hBA hb1
  replace k0 := (hb1.block _ (by omega)).trans k0
  replace hV := hV.step hb1
  have hs1 := hb1.size
  clear hb1 hBA
  replace hcase := Lib.hid hcase
  go_wp2_with fail
  refine (decimal_any T _ (by omega) hV).mono ?_
  rintro e w2 ⟨v, b2, rfl, hok, hnone, _, _, hb2⟩
  have hB2 := bstep hB1 hb2
  replace k0 := (hb2.block _ (by omega)).trans k0
  replace hV := hV.step hb2
  have hs2 := hb2.size
  clear hb2 hB1
  cases b2 with
  | false =>
    have hd := hnone rfl
    have hfin : adF (lets s) = (Ad.none, false) := by
      rcases hcase.out with ⟨hn, _⟩ | ⟨he, hn⟩
      · exact adF_none hn
      · rw [he]
        exact adF_nothing hn hd
    rw [h.out] at hfin
    injection hfin with e1 e2
    subst e1 e2
    obtain ⟨c0, c1, c2, c3⟩ := box_cells k0
    obtain ⟨f0, f1, f2, f3⟩ := frozen_four k0
    replace k0 := Lib.hid k0
    clear hok hnone hd
    go_wp2_with fail
    refine bodyPost_ret (results_cell2 rfl _ _ w.heap.size 26 _ (0, 0) _ rfl (row_set (row_set (row_set (row_set k0.out 0 _) 1 _) 2 _) 3 _) Tryz.underlying26 rfl (by kernel_rfl)) rfl ?_
    exact ⟨none, 0, 0, rfl, by omega, hno.out.2, World.ownsRow_nil _ _ _ _, below_set (below_set (below_set (below_set hB2 (Nat.le_refl _)) (Nat.le_refl _)) (Nat.le_refl _)) (Nat.le_refl _)⟩
  | true =>
    have hd := hok rfl
    have hfin : adF (lets s) = if adV (adH (lets H) v) then (adH (lets H) v, true) else (Ad.none, false) := by
      rcases hcase.out with ⟨hn, rfl⟩ | ⟨he, hn⟩
      · cases hd
      · rw [he]
        exact adF_cut hn hd
    rw [h.out] at hfin
    obtain ⟨q, bq, hq⟩ : ∃ q bq, quadF (lets H) = (q, bq) := ⟨_, _, rfl⟩
    obtain ⟨a3, ha3⟩ : ∃ a3, adH (lets H) v = a3 := ⟨_, rfl⟩
    rw [ha3] at hfin
    have hn3 : a3.name.size ≤ 2000000 := by
      have := adH_size (lets H) v
      rw [ha3, lets_length] at this
      omega
    have hcs : (bq = true ∧ a3 = ⟨1, q, ⟨#[]⟩, v⟩) ∨ (bq = false ∧ a3 = ⟨3, [], H, v⟩) := by
      cases bq with
      | true => exact .inl ⟨rfl, by rw [← ha3, adH_of_quad hq]⟩
      | false => exact .inr ⟨rfl, by rw [← ha3, adH_of_name hq, txt_lets]⟩
    replace hfin := Lib.hid hfin
    replace hq := Lib.hid hq
    replace hcs := Lib.hid hcs
    clear hok hnone hd ha3 hcase h
    go_wp2_with fail
    refine calls_gen fun wB hwB => ?_
    have kb : wB.heap[w2.heap.size]? = some (.cells #[.int .i64 3, .slice none 0 0, .string H, .int .i64 v] 26 (0, 0)) := by
      rw [hwB]
      exact heap_alloc_new w2 _
    have hbB : Below w2.heap.size w2 wB := by rw [hwB]; go_grown
    have hsB : wB.heap.size = w2.heap.size + 1 := by rw [hwB]; simp
    clear hwB
    replace k0 := (hbB.block _ (by omega)).trans k0
    replace hV := hV.step hbB
    have hB3 := bstep hB2 hbB
    clear hB2 hbB
    refine (quadFrom_impl H _ (by omega) hV q bq hq.out).mono ?_
    rintro e w3 ⟨A, n, c, rfl, ho, hb3⟩
    have hB4 := bstep hB3 hb3
    replace kb := (hb3.block _ (by omega)).trans kb
    replace k0 := (hb3.block _ (by omega)).trans k0
    have hs3 := hb3.size
    clear hb3 hB3 hV
    obtain ⟨c0, c1, c2, c3⟩ := box_cells kb
    obtain ⟨f0, f1, f2, f3⟩ := frozen_four kb
    replace hq := Lib.hid hq
    rcases hcs.out with ⟨rfl, rfl⟩ | ⟨rfl, rfl⟩
    · replace kb := Lib.hid kb
      replace k0 := Lib.hid k0
      go_wp2_with fail
      refine calls_gen fun wC hwC => ?_
      have kC : wC.heap[w2.heap.size]? = some (.cells #[.int .i64 1, .slice A n c, .string ⟨#[]⟩, .int .i64 v] 26 (0, 0)) := by
        rw [hwC]
        exact row_set (row_set (row_set (row_set kb.out 0 _) 1 _) 2 _) 3 _
      have k0C : wC.heap[w.heap.size]? = some (.cells #[.int .i64 0, .slice none 0 0, .string ⟨#[]⟩, .int .i64 0] 26 (0, 0)) := by
        rw [hwC]
        exact row_other (row_other (row_other (row_other k0.out (by omega)) (by omega)) (by omega)) (by omega)
      have hBC : Below w.heap.size w wC := by
        rw [hwC]
        exact below_set (below_set (below_set (below_set hB4 (by omega)) (by omega)) (by omega)) (by omega)
      have hoC : wC.ownsRow wB.heap.size 3 1 (.slice A n c) n (ints q) := by
        rw [hwC]
        exact own_set (own_set (own_set (own_set ho (by omega)) (by omega)) (by omega)) (by omega)
      have hgl := (Array.getElem?_eq_some_iff.1 kC).1
      clear hwC kb k0 hB4 ho c0 c1 c2 c3 f0 f1 f2 f3 hcs
      obtain ⟨r, hr⟩ : ∃ r, adV ⟨1, q, ⟨#[]⟩, v⟩ = r := ⟨_, rfl⟩
      have hf := hfin.out
      rw [hr] at hf
      replace hr := Lib.hid hr
      replace kC := Lib.hid kC
      replace k0C := Lib.hid k0C
      refine (addressValid_impl ⟨1, q, ⟨#[]⟩, v⟩ A n c _ (hV0.step hBC).1 (Rd.own hoC) (by first | omega | (show (0 : Nat) ≤ _; omega) | (show H.size ≤ _; omega)) _ hr.out).mono ?_
      rintro e w5 ⟨rfl, hb5⟩
      have hB5 := bstep hBC hb5
      have k05 := (hb5.block _ (by omega)).trans k0C.out
      have kC5 := (hb5.block _ (by omega)).trans kC.out
      have ho5 := own_below hoC hb5
      have hs5 := hb5.size
      clear hb5 hBC kC k0C
      obtain ⟨c0, c1, c2, c3⟩ := box_cells k05
      obtain ⟨f0, f1, f2, f3⟩ := frozen_four k05
      obtain ⟨m0, m1, m2, m3⟩ := box_cells kC5
      replace k05 := Lib.hid k05
      replace kC5 := Lib.hid kC5
      cases r with
      | false =>
        simp only [Bool.false_eq_true, if_false] at hf
        injection hf with e1 e2
        subst e1 e2
        go_wp2_with fail
        refine bodyPost_ret (results_cell2 rfl _ _ w.heap.size 26 _ (0, 0) _ rfl (row_set (row_set (row_set (row_set k05.out 0 _) 1 _) 2 _) 3 _) Tryz.underlying26 rfl (by kernel_rfl)) rfl ?_
        exact ⟨none, 0, 0, rfl, by omega, hno.out.2, World.ownsRow_nil _ _ _ _, below_set (below_set (below_set (below_set hB5 (by omega)) (by omega)) (by omega)) (by omega)⟩
      | true =>
        simp only [if_true] at hf
        injection hf with e1 e2
        subst e1 e2
        have hnl := (Rd.own ho5).ilen
        go_wp2_with fail
        refine bodyPost_ret (results_cell2 rfl _ _ w.heap.size 26 _ (0, 0) _ rfl (row_set (row_set (row_set (row_set k05.out 0 _) 1 _) 2 _) 3 _) Tryz.underlying26 rfl (by kernel_rfl)) rfl ?_
        exact ⟨A, n, c, rfl, by rw [← hnl]; exact hno.out.1, hno.out.2, own_base (own_set (own_set (own_set (own_set ho5 (by omega)) (by omega)) (by omega)) (by omega)) (by omega), below_set (below_set (below_set (below_set hB5 (by omega)) (by omega)) (by omega)) (by omega)⟩
    · replace kb := Lib.hid kb
      replace k0 := Lib.hid k0
      go_wp2_with fail
      refine calls_gen fun wC hwC => ?_
      have kC := kb.out
      have k0C := k0.out
      have hBC := hB4
      rw [← hwC] at kC k0C hBC
      have hoC : wC.ownsRow wB.heap.size 3 1 (.slice none 0 0) 0 (ints []) := World.ownsRow_nil _ _ _ _
      have hgl := (Array.getElem?_eq_some_iff.1 kC).1
      clear hwC kb k0 hB4 ho c0 c1 c2 c3 f0 f1 f2 f3 hcs
      obtain ⟨r, hr⟩ : ∃ r, adV ⟨3, [], H, v⟩ = r := ⟨_, rfl⟩
      have hf := hfin.out
      rw [hr] at hf
      replace hr := Lib.hid hr
      replace kC := Lib.hid kC
      replace k0C := Lib.hid k0C
      refine (addressValid_impl ⟨3, [], H, v⟩ none 0 0 _ (hV0.step hBC).1 (Rd.own hoC) (by first | omega | (show (0 : Nat) ≤ _; omega) | (show H.size ≤ _; omega)) _ hr.out).mono ?_
      rintro e w5 ⟨rfl, hb5⟩
      have hB5 := bstep hBC hb5
      have k05 := (hb5.block _ (by omega)).trans k0C.out
      have kC5 := (hb5.block _ (by omega)).trans kC.out
      have ho5 := own_below hoC hb5
      have hs5 := hb5.size
      clear hb5 hBC kC k0C
      obtain ⟨c0, c1, c2, c3⟩ := box_cells k05
      obtain ⟨f0, f1, f2, f3⟩ := frozen_four k05
      obtain ⟨m0, m1, m2, m3⟩ := box_cells kC5
      replace k05 := Lib.hid k05
      replace kC5 := Lib.hid kC5
      cases r with
      | false =>
        simp only [Bool.false_eq_true, if_false] at hf
        injection hf with e1 e2
        subst e1 e2
        go_wp2_with fail
        refine bodyPost_ret (results_cell2 rfl _ _ w.heap.size 26 _ (0, 0) _ rfl (row_set (row_set (row_set (row_set k05.out 0 _) 1 _) 2 _) 3 _) Tryz.underlying26 rfl (by kernel_rfl)) rfl ?_
        exact ⟨none, 0, 0, rfl, by omega, hno.out.2, World.ownsRow_nil _ _ _ _, below_set (below_set (below_set (below_set hB5 (by omega)) (by omega)) (by omega)) (by omega)⟩
      | true =>
        simp only [if_true] at hf
        injection hf with e1 e2
        subst e1 e2
        have hnl := (Rd.own ho5).ilen
        go_wp2_with fail
        refine bodyPost_ret (results_cell2 rfl _ _ w.heap.size 26 _ (0, 0) _ rfl (row_set (row_set (row_set (row_set k05.out 0 _) 1 _) 2 _) 3 _) Tryz.underlying26 rfl (by kernel_rfl)) rfl ?_
        exact ⟨none, 0, 0, rfl, by rw [← hnl]; exact hno.out.1, hno.out.2, own_base (own_set (own_set (own_set (own_set ho5 (by omega)) (by omega)) (by omega)) (by omega)) (by omega), below_set (below_set (below_set (below_set hB5 (by omega)) (by omega)) (by omega)) (by omega)⟩
end Go.Proofs.YthgfldabeaepaaaGreatDoor
