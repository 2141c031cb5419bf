/- What NameValid answers, in the program and in the reference. No condition. -/
import Derived.Test.YthgfldabeaepaaaGreatDoorEnv
import Derived.Test.YthgfldabeaepaaaGreatDoorUser
namespace Go.Proofs.YthgfldabeaepaaaGreatDoor
open Go.RowKit

theorem sInts_lets (s : ByteArray) : sInts s = (lets s).map fun c => (c.toNat : Int) := rfl
theorem lets_at {s : ByteArray} {k : Nat} (h : k < s.size) : (lets s)[k]? = some (s[k]'h) := by
  have h' : k < s.data.toList.length := by simpa using h
  rw [List.getElem?_eq_getElem h']
  rfl
theorem all_letB (s : ByteArray) : (sInts s).all letB = (lets s).all letU := by
  rw [sInts_lets, List.all_map]
  rfl
theorem partV_eq (s : ByteArray) : partV (lets s) = (!decide (s.size = 0) && (sInts s).all letB) := by
  unfold partV
  rw [all_letB]
  congr 2
  rw [Bool.eq_iff_iff, List.isEmpty_iff_length_eq_zero, lets_length]
  simp
theorem cut_hit {c : UInt8} {l : List UInt8} {f k : Nat} (hf : f ≤ k) (hk : l[k]? = some c) (hno : ∀ j, f ≤ j → j < k → l[j]? ≠ some c) : pieces c (l.drop f) = ((l.drop f).take (k - f)) :: pieces c (l.drop (k + 1)) := by
  obtain ⟨hkl, e⟩ := List.getElem?_eq_some_iff.1 hk
  have h1 : l.drop f = (l.drop f).take (k - f) ++ c :: l.drop (k + 1) := by
    have h2 : (l.drop f).drop (k - f) = c :: l.drop (k + 1) := by
      rw [List.drop_drop, show f + (k - f) = k by omega, List.drop_eq_getElem_cons hkl, e]
    rw [← h2, List.take_append_drop]
  have h3 : c ∉ (l.drop f).take (k - f) := by
    intro hm
    obtain ⟨j, hj⟩ := List.mem_iff_getElem?.1 hm
    rw [List.getElem?_take] at hj
    split at hj
    · rw [List.getElem?_drop] at hj
      exact hno (f + j) (by omega) (by omega) hj
    · cases hj
  rw [h1, pieces_at h3, ← h1]
theorem cut_end {c : UInt8} {l : List UInt8} {f : Nat} (hno : ∀ j, f ≤ j → j < l.length → l[j]? ≠ some c) : pieces c (l.drop f) = [l.drop f] := by
  refine pieces_none fun hm => ?_
  obtain ⟨j, hj⟩ := List.mem_iff_getElem?.1 hm
  rw [List.getElem?_drop] at hj
  have := (List.getElem?_eq_some_iff.1 hj).1
  exact hno (f + j) (by omega) (by omega) hj
/-- What l2Cut leaves: the pieces, in a row of the call's own. -/
def RetP (w : World) (c : UInt8) (s : ByteArray) (e : Ending) (w' : World) : Prop :=
  ∃ A n cap ps, e = .returned (.slice A n cap) ∧ ps.map lets = pieces c (lets s) ∧ w'.ownsRow w.heap.size 9 1 (.slice A n cap) n (strs ps) ∧ Below w.heap.size w w'
set_option maxRecDepth 20000 in
set_option maxHeartbeats 2000000 in
theorem l2Cut_any (s : ByteArray) (z : Int) (c : UInt8) (hz : z = (c.toNat : Int)) (w : World) (hs : s.size ≤ 4000000) : Calls Tryz.prog 18 #[.string s, .int .u8 z] w (RetP w c s) := by
  obtain ⟨i0, hi, hz0, hz1, hz2⟩ := info_parts Tryz.infoStr
  replace hz := Lib.hid hz
  go_enter Tryz.func18, Tryz.ntmps18
  go_wp2
  go_loopw [5, 6, 7] (fun v vf i wr => ∃ (k f m : Nat) (A : Option Addr) (cap : Nat) (ps : List ByteArray), k ≤ s.size ∧ f ≤ k ∧ m ≤ k ∧ i = .int .i64 k ∧ vf = .int .i64 f ∧ v = .slice A m cap ∧ wr.ownsRow w.heap.size 9 1 (.slice A m cap) m (strs ps) ∧
    Hid (ps.map lets ++ pieces c ((lets s).drop f) = pieces c (lets s)) ∧ Hid (∀ j, f ≤ j → j < k → (lets s)[j]? ≠ some c) ∧ Below w.heap.size w wr) (fun _ _ i _ => s.size - (intOf i).toNat)
  case atStart => exact ⟨0, 0, 0, _, _, [], Nat.zero_le _, Nat.le_refl _, Nat.le_refl _, rfl, rfl, rfl, own_emptystr w, rfl, (fun j h1 h2 => by omega), by go_grown⟩
  case round =>
    obtain ⟨k, f, m, A, cap, ps, hk, hfk, hmk, rfl, rfl, rfl, hown, hps, hno, hb⟩ := hrel
    by_cases hlt : k < s.size
    · have hxk := lets_at hlt
      by_cases hc : s[k] = c
      · have he : ((s[k].toNat : Int) == z) = true := by rw [hz.out, hc]; simp
        rw [hc] at hxk
        have hcut := cut_hit hfk hxk hno.out
        have hx2 : lets (s.extract f k) = ((lets s).drop f).take (k - f) := Lib.extract_data s f k
        have hps' : Hid ((ps ++ [s.extract f k]).map lets ++ pieces c ((lets s).drop (k + 1)) = pieces c (lets s)) := by
          have := hps.out
          rw [hcut] at this
          rw [List.map_append, List.map_cons, List.map_nil, hx2, List.append_assoc]
          exact this
        clear hcut hx2 hxk hps hno
        replace hc := Lib.hid hc
        have hsz := hb.size
        have h1c := strs_oneCell [s.extract f k]
        have h63 : m + 1 ≤ maxLen := by unfold maxLen; omega
        have hbb : (m + 1) * 16 ≤ 140737488355328 := by omega
        have hbase : w.heap.size ≤ (wr.alloc (.cells #[.string (s.extract f k)] 9)).heap.size := by simp; omega
        go_wp2_with (at_builtin; refine wpList_append_own _ rfl _ _ 38 rfl w.heap.size 9 i0 (.string ByteArray.empty) 1 16 Tryz.underlying38 hi hz0 hz1 hz2 rfl (by decide) _ _ _ rfl (hown.alloc _) ⟨wr.heap.size, 0, none⟩ 1 1 [.string (s.extract f k)] rfl rfl (cell_one_new _ _ _) h1c h63 hbb hbase ?_)
        intro v' w1 hown1 hg1 _
        replace hown1 : w1.ownsRow w.heap.size 9 1 v' (m + 1) (strs (ps ++ [s.extract f k])) := by simpa only [strs, List.map_append, List.map_cons, List.map_nil] using hown1
        obtain ⟨A', c', rfl, _, _⟩ := own_form hown1
        have hb1 := (hb.alloc hsz (.cells #[.string (s.extract f k)] 9)).grown hg1 hbase (own_frees hown)
        clear h1c h63 hbb hbase hg1 hown hb
        go_wp2
        go_roundw
        case rel => exact ⟨k + 1, k + 1, m + 1, A', c', _, by omega, by omega, by omega, by go_num, by go_num, rfl, hown1, hps', (fun j h1 h2 => by omega), hb1⟩
        case measure => simp [intOf]; omega
      · have he : ((s[k].toNat : Int) == z) = false := by
          rw [hz.out, beq_eq_false_iff_ne]
          intro e
          exact hc (UInt8.toNat_inj.1 (by omega))
        have hno' : Hid (∀ j, f ≤ j → j < k + 1 → (lets s)[j]? ≠ some c) := by
          intro j h1 h2 h3
          by_cases hj : j = k
          · subst hj
            rw [hxk] at h3
            injection h3 with h3
            exact hc h3
          · exact hno.out j h1 (by omega) h3
        clear hxk hno
        replace hc := Lib.hid hc
        go_wp2
        go_roundw
        case rel => exact ⟨k + 1, f, m, A, cap, ps, by omega, by omega, by omega, by go_num, rfl, rfl, hown, hps, hno', hb⟩
        case measure => simp [intOf]; omega
    · have hk' : k = s.size := by omega
      have hend : pieces c ((lets s).drop f) = [(lets s).drop f] := cut_end fun j h1 h2 => hno.out j h1 (by rw [lets_length] at h2; omega)
      have hx2 : lets (s.extract f s.size) = (lets s).drop f := Lib.extract_to_end s f
      have hps' : Hid ((ps ++ [s.extract f s.size]).map lets = pieces c (lets s)) := by
        have := hps.out
        rw [hend] at this
        rw [List.map_append, List.map_cons, List.map_nil, hx2]
        exact this
      clear hend hx2 hps hno
      have hfs : f ≤ s.size := by omega
      replace hk' := Lib.hid hk'
      have hsz := hb.size
      have h1c := strs_oneCell [s.extract f s.size]
      have h63 : m + 1 ≤ maxLen := by unfold maxLen; omega
      have hbb : (m + 1) * 16 ≤ 140737488355328 := by omega
      have hbase : w.heap.size ≤ (wr.alloc (.cells #[.string (s.extract f s.size)] 9)).heap.size := by simp; omega
      go_wp2_with (at_builtin; refine wpList_append_own _ rfl _ _ 38 rfl w.heap.size 9 i0 (.string ByteArray.empty) 1 16 Tryz.underlying38 hi hz0 hz1 hz2 rfl (by decide) _ _ _ rfl (hown.alloc _) ⟨wr.heap.size, 0, none⟩ 1 1 [.string (s.extract f s.size)] rfl rfl (cell_one_new _ _ _) h1c h63 hbb hbase ?_)
      intro v' w1 hown1 hg1 _
      replace hown1 : w1.ownsRow w.heap.size 9 1 v' (m + 1) (strs (ps ++ [s.extract f s.size])) := by simpa only [strs, List.map_append, List.map_cons, List.map_nil] using hown1
      obtain ⟨A', c', rfl, _, _⟩ := own_form hown1
      have hb1 := (hb.alloc hsz (.cells #[.string (s.extract f s.size)] 9)).grown hg1 hbase (own_frees hown)
      clear h1c h63 hbb hbase hg1 hown hb
      go_wp2
      go_ret
      exact ⟨A', m + 1, c', _, rfl, hps'.out, hown1, hb1⟩
set_option maxRecDepth 20000 in
set_option maxHeartbeats 1000000 in
theorem consists_dash (s : ByteArray) (w : World) (hs : s.size ≤ 9223372036854775807) (r : Bool) (hr : (sInts s).all letB = r) :
    Calls Tryz.prog 42 #[.string s, .string ⟨#[45]⟩] w fun e w' => e = .returned (.bool r) ∧ w = w' := by
  subst hr
  go_enter Tryz.func42, Tryz.ntmps42
  go_wp2
  go_loop [8] (fun i => ∃ k : Nat, k ≤ s.size ∧ i = .int .i64 k ∧ Hid (((sInts s).take k).all letB = true)) (fun i => s.size - (intOf i).toNat)
  case atStart => exact ⟨0, Nat.zero_le _, rfl, by simp [Hid]⟩
  case round =>
    obtain ⟨k, hk, rfl, hall⟩ := hrel
    by_cases hlt : k < s.size
    · have hxk := sInts_at hlt
      have hbd : 0 ≤ (s[k].toNat : Int) ∧ (s[k].toNat : Int) ≤ 255 := by have := s[k].toNat_lt; omega
      replace hxk := Lib.hid hxk
      cases hL : inR (s[k].toNat : Int) 97 122 with
      | true =>
        have hok : Hid (letB (s[k].toNat : Int) = true) := by simp [Hid, letB, ldB, hL]
        replace hL := Lib.hid hL
        go_wp2_with (go_at_call 43; refine (isLetter_any _ _ _ hL.out).mono ?_; rintro e w' ⟨rfl, rfl⟩)
        go_round
        case rel => exact ⟨k + 1, by omega, by go_num, all_take_succ hall.out hxk.out hok.out⟩
        case measure => simp [intOf]; omega
      | false =>
        cases hD : inR (s[k].toNat : Int) 48 57 with
        | true =>
          have hok : Hid (letB (s[k].toNat : Int) = true) := by simp [Hid, letB, ldB, hD]
          replace hL := Lib.hid hL
          replace hD := Lib.hid hD
          go_wp2_with (first | (go_at_call 43; refine (isLetter_any _ _ _ hL.out).mono ?_; rintro e w' ⟨rfl, rfl⟩) | (go_at_call 56; refine (isDigit_any _ _ _ hD.out).mono ?_; rintro e w' ⟨rfl, rfl⟩))
          go_round
          case rel => exact ⟨k + 1, by omega, by go_num, all_take_succ hall.out hxk.out hok.out⟩
          case measure => simp [intOf]; omega
        | false =>
          by_cases h45 : (s[k].toNat : Int) = 45
          · have hok : Hid (letB (s[k].toNat : Int) = true) := by simp [Hid, letB, h45]
            have hr45 : (if (s[k].toNat : Int) = 45 then (0 : Int) else -1) = 0 := if_pos h45
            replace hL := Lib.hid hL
            replace hD := Lib.hid hD
            replace hr45 := Lib.hid hr45
            replace h45 := Lib.hid h45
            go_wp2_with (first | (go_at_call 43; refine (isLetter_any _ _ _ hL.out).mono ?_; rintro e w' ⟨rfl, rfl⟩) | (go_at_call 56; refine (isDigit_any _ _ _ hD.out).mono ?_; rintro e w' ⟨rfl, rfl⟩) | (go_at_call 57; refine (indexByte_dash _ hbd _ _ hr45.out).mono ?_; rintro e w' ⟨rfl, rfl⟩))
            go_round
            case rel => exact ⟨k + 1, by omega, by go_num, all_take_succ hall.out hxk.out hok.out⟩
            case measure => simp [intOf]; omega
          · have hok : Hid (letB (s[k].toNat : Int) = false) := by simp [Hid, letB, ldB, hD, hL, h45]
            have hr45 : (if (s[k].toNat : Int) = 45 then (0 : Int) else -1) = -1 := if_neg h45
            replace hL := Lib.hid hL
            replace hD := Lib.hid hD
            replace hr45 := Lib.hid hr45
            replace h45 := Lib.hid h45
            go_wp2_with (first | (go_at_call 43; refine (isLetter_any _ _ _ hL.out).mono ?_; rintro e w' ⟨rfl, rfl⟩) | (go_at_call 56; refine (isDigit_any _ _ _ hD.out).mono ?_; rintro e w' ⟨rfl, rfl⟩) | (go_at_call 57; refine (indexByte_dash _ hbd _ _ hr45.out).mono ?_; rintro e w' ⟨rfl, rfl⟩))
            go_ret
            exact ⟨by rw [all_false_at hxk.out hok.out]; rfl, rfl⟩
    · have hk' : k = s.size := by omega
      subst hk'
      go_wp2
      go_ret
      exact ⟨by rw [all_of_take hall.out (sInts_length s)]; rfl, rfl⟩
/-! ### What NameValid answers -/
theorem name_bad {s p : ByteArray} {ps : List ByteArray} {k : Nat} (H : ps.map lets = pieces 46 (lets s)) (hp : ps[k]? = some p) (h : partV (lets p) = false) : nameV (lets s) = false := by
  rw [← Bool.not_eq_true, nameV_true]
  rintro ⟨h1, _⟩
  rw [h1 (lets p) (by rw [← H]; exact List.mem_map_of_mem (List.mem_of_getElem? hp))] at h
  cases h
theorem lowU_eq (c : UInt8) : lowU c = inR (c.toNat : Int) 97 122 := by
  unfold lowU inR
  congr 1 <;> (apply decide_eq_decide.2; omega)
theorem name_good {s : ByteArray} {ps : List ByteArray} {n : Nat} (H : ps.map lets = pieces 46 (lets s)) (hn : ps.length = n) (hall : (ps.take n).all (fun p => partV (lets p)) = true) :
    0 < n ∧ ∃ (p : ByteArray) (h0 : 0 < p.size), ps[n - 1]? = some p ∧ nameV (lets s) = (decide (s.size ≤ 20) && inR ((p[0]'h0).toNat : Int) 97 122) := by
  subst hn
  rw [List.take_length] at hall
  have hne : ps ≠ [] := by
    rintro rfl
    exact pieces_ne 46 (lets s) H.symm
  have hpos : 0 < ps.length := List.length_pos_iff.2 hne
  have hp : ps[ps.length - 1]? = some (ps.getLast hne) := by rw [← List.getLast?_eq_getElem?, List.getLast?_eq_some_getLast hne]
  have hv := List.all_eq_true.1 hall _ (List.getLast_mem hne)
  generalize ps.getLast hne = p at hp hv
  have h0 : 0 < p.size := by
    rcases Nat.eq_zero_or_pos p.size with h | h
    · have hv' : partV (lets p) = true := hv
      rw [partV_eq, h] at hv'
      simp at hv'
    · exact h
  refine ⟨hpos, p, h0, hp, ?_⟩
  have hlast : (pieces 46 (lets s)).getLastD [] = lets p := by
    rw [← H, List.getLastD_eq_getLast?, List.getLast?_eq_getElem?, List.length_map, List.getElem?_map, hp]
    rfl
  have hhead : (lets p).headD 0 = p[0]'h0 := by
    have := lets_at h0
    cases hl : lets p with
    | nil => rw [hl] at this; cases this
    | cons b r => rw [hl] at this; simpa using this
  have hallp : (pieces 46 (lets s)).all partV = true := by rw [← H, List.all_map]; exact hall
  unfold nameV
  rw [hallp, hlast, hhead, lowU_eq, lets_length, Bool.true_and]
theorem all_take_str {f : ByteArray → Bool} {ps : List ByteArray} {k : Nat} {p : ByteArray} (h : (ps.take k).all f = true) (hp : ps[k]? = some p) (hf : f p = true) : (ps.take (k + 1)).all f = true := by
  rw [List.take_add_one, hp, List.all_append, h]
  simpa using hf
set_option maxRecDepth 20000 in
set_option maxHeartbeats 2000000 in
theorem nameValid_impl (s : ByteArray) (w : World) (hM : EnvM w) (hs : s.size ≤ 4000000) (r : Bool) (hr : nameV (lets s) = r) :
    Calls Tryz.prog 25 #[.string s] w fun e w' => e = .returned (.bool r) ∧ Below w.heap.size w w' := by
  replace hr := Lib.hid hr
  go_enter Tryz.func25, Tryz.ntmps25
  go_wp2_with fail
  refine (split_any s 46 w hM hs).mono ?_
  rintro e w1 ⟨A, n, cap, ps, rfl, H, hrd, hcap, hB⟩
  have hlen := hrd.slen
  have hmax := hrd.max
  replace H := Lib.hid H
  replace hlen := Lib.hid hlen
  go_wp2_with fail
  go_loop [10] (fun i => ∃ k : Nat, k ≤ n ∧ i = .int .i64 k ∧ Hid ((ps.take k).all (fun p => partV (lets p)) = true)) (fun i => n - (intOf i).toNat)
  case atStart => exact ⟨0, Nat.zero_le _, rfl, by simp [Hid]⟩
  case round =>
    obtain ⟨k, hk, rfl, hall⟩ := hrel
    by_cases hlt : k < n
    · obtain ⟨b1, o1, p, rfl, hpk, hc1⟩ := hrd.str hlt
      replace hpk := Lib.hid hpk
      by_cases h0 : p.size = 0
      · have hpe : p = ⟨#[]⟩ := lets_inj (List.eq_nil_of_length_eq_zero (by rw [lets_length, h0]))
        have er : r = false := by rw [← hr.out]; exact name_bad H.out hpk.out (by rw [partV_eq, h0]; rfl)
        subst hpe
        replace er := Lib.hid er
        go_wp2_with fail
        go_ret
        exact ⟨by rw [er.out]; rfl, hB⟩
      · have hpne : p.toList.isEmpty = false := by
          rw [text_toList, List.isEmpty_eq_false_iff]
          intro e
          exact h0 (by rw [← lets_length, e]; rfl)
        have hps : p.size ≤ 9223372036854775807 := by
          have : p.size ≤ s.size := by
            have hm : lets p ∈ pieces 46 (lets s) := by rw [← H.out]; exact List.mem_map_of_mem (List.mem_of_getElem? hpk.out)
            have := piece_length hm
            rwa [lets_length, lets_length] at this
          omega
        obtain ⟨q, hq⟩ : ∃ q, (sInts p).all letB = q := ⟨_, rfl⟩
        have hpv : Hid (partV (lets p) = q) := by
          show partV (lets p) = q
          rw [partV_eq, hq, decide_eq_false h0]
          rfl
        replace hq := Lib.hid hq
        clear h0
        cases q with
        | false =>
          have er : r = false := by rw [← hr.out]; exact name_bad H.out hpk.out hpv.out
          replace er := Lib.hid er
          go_wp2_with (go_at_call 42; refine (consists_dash _ _ hps _ hq.out).mono ?_; rintro e w' ⟨rfl, rfl⟩)
          go_ret
          exact ⟨by rw [er.out]; rfl, hB⟩
        | true =>
          go_wp2_with (go_at_call 42; refine (consists_dash _ _ hps _ hq.out).mono ?_; rintro e w' ⟨rfl, rfl⟩)
          go_round
          case rel => exact ⟨k + 1, by omega, by go_num, all_take_str hall.out hpk.out hpv.out⟩
          case measure => simp [intOf]; omega
    · obtain rfl : k = n := by omega
      obtain ⟨hpos, p, h0, hp, hv⟩ := name_good H.out hlen.out hall.out
      obtain ⟨b1, o1, p', hA, hp', hc1⟩ := hrd.str (k := k - 1) (by omega)
      subst hA
      rw [hp] at hp'
      injection hp' with hp'
      subst hp'
      rw [hv] at hr
      have hcst : ((k : Int) - 1) = ((k - 1 : Nat) : Int) := by omega
      obtain ⟨q, hq⟩ : ∃ q, inR ((p[0]'h0).toNat : Int) 97 122 = q := ⟨_, rfl⟩
      rw [hq] at hr
      replace hq := Lib.hid hq
      have hk1 : k - 1 < k := by omega
      clear hp hv
      generalize k - 1 = k1 at hc1 hcst hk1
      by_cases h20 : s.size ≤ 20
      · have er : Hid (r = q) := by rw [← hr.out, decide_eq_true h20]; rfl
        go_wp2_with (go_at_call 43; refine (isLetter_any _ _ _ hq.out).mono ?_; rintro e w' ⟨rfl, rfl⟩)
        go_ret
        exact ⟨by rw [er.out]; rfl, hB⟩
      · have er : Hid (r = false) := by rw [← hr.out, decide_eq_false h20]; rfl
        go_wp2_with fail
        go_ret
        exact ⟨by rw [er.out]; rfl, hB⟩
set_option maxRecDepth 20000 in
set_option maxHeartbeats 4000000 in
theorem nameValid_spec (s : ByteArray) (w : World) (hs : s.size ≤ 4000000) (r : Bool) (hr : nameV (lets s) = r) :
    Calls Tryz.prog 39 #[.string s] w fun e w' => e = .returned (.bool r) ∧ Below w.heap.size w w' := by
  replace hr := Lib.hid hr
  go_enter Tryz.func39, Tryz.ntmps39
  go_wp2_with fail
  refine (l2Cut_any s 46 46 rfl w hs).mono ?_
  rintro e w1 ⟨A, n, cap, ps, rfl, H, hown, hB⟩
  have hrd := Rd.own hown
  clear hown
  have hlen := hrd.slen
  have hmax := hrd.max
  replace H := Lib.hid H
  replace hlen := Lib.hid hlen
  go_wp2_with fail
  go_loop [4, 6] (fun i _ => ∃ k : Nat, k ≤ n ∧ i = .int .i64 k ∧ Hid ((ps.take k).all (fun p => partV (lets p)) = true)) (fun i _ => n - (intOf i).toNat)
  case atStart => exact ⟨0, Nat.zero_le _, rfl, by simp [Hid]⟩
  case round =>
    obtain ⟨k, hk, rfl, hall⟩ := hrel
    by_cases hlt : k < n
    · obtain ⟨b1, o1, p, rfl, hpk, hc1⟩ := hrd.str hlt
      have hps : p.size ≤ 4000000 := by
        have hm : lets p ∈ pieces 46 (lets s) := by rw [← H.out]; exact List.mem_map_of_mem (List.mem_of_getElem? hpk)
        have := piece_length hm
        rw [lets_length, lets_length] at this
        omega
      replace hpk := Lib.hid hpk
      have hlt' : (k : Int) < (n : Int) := by omega
      by_cases h0 : p.size = 0
      · have er : r = false := by rw [← hr.out]; exact name_bad H.out hpk.out (by rw [partV_eq, h0]; rfl)
        have h0' : ((p.size : Int) == 0) = true := by simp [h0]
        replace er := Lib.hid er
        replace h0 := Lib.hid h0
        go_wp2_with fail
        go_ret
        exact ⟨by rw [er.out]; rfl, hB⟩
      · have h0' : ((p.size : Int) == 0) = false := by rw [beq_eq_false_iff_ne]; omega
        go_wp2_with fail
        go_loop [6] (fun i2 => ∃ k2 : Nat, k2 ≤ p.size ∧ i2 = .int .i64 k2 ∧ Hid (((sInts p).take k2).all letB = true)) (fun i2 => p.size - (intOf i2).toNat)
        case atStart => exact ⟨0, Nat.zero_le _, rfl, by simp [Hid]⟩
        case round =>
          obtain ⟨k2, hk2, rfl, hall2⟩ := hrel
          by_cases hlt2 : k2 < p.size
          · have hxk := sInts_at hlt2
            replace hxk := Lib.hid hxk
            have hlt2' : (k2 : Int) < (p.size : Int) := by omega
            cases hin : letB (p[k2].toNat : Int) with
            | true =>
              replace hin := Lib.hid hin
              go_wp2_with (go_at_call 53; refine (l2Letter_any _ _ _ hin.out).mono ?_; rintro e w' ⟨rfl, rfl⟩)
              go_round
              case rel => exact ⟨k2 + 1, by omega, by go_num, all_take_succ hall2.out hxk.out hin.out⟩
              case measure => simp [intOf]; omega
            | false =>
              have er : r = false := by
                rw [← hr.out]
                refine name_bad H.out hpk.out ?_
                rw [partV_eq, all_false_at hxk.out hin, Bool.and_false]
              replace er := Lib.hid er
              replace hin := Lib.hid hin
              go_wp2_with (go_at_call 53; refine (l2Letter_any _ _ _ hin.out).mono ?_; rintro e w' ⟨rfl, rfl⟩)
              go_ret
              exact ⟨by rw [er.out]; rfl, hB⟩
          · have hk2' : k2 = p.size := by omega
            have hpv : Hid (partV (lets p) = true) := by
              show partV (lets p) = true
              rw [partV_eq, decide_eq_false h0, all_of_take hall2.out (by rw [sInts_length, hk2'])]
              rfl
            replace hk2' := Lib.hid hk2'
            go_wp2_with fail
            go_round
            case rel => exact ⟨k + 1, by omega, by go_num, all_take_str hall.out hpk.out hpv.out⟩
            case measure => simp [intOf]; omega
    · obtain rfl : k = n := by omega
      obtain ⟨hpos, p, h0, hp, hv⟩ := name_good H.out hlen.out hall.out
      obtain ⟨b1, o1, p', hA, hp', hc1⟩ := hrd.str (k := k - 1) (by omega)
      subst hA
      rw [hp] at hp'
      injection hp' with hp'
      subst hp'
      rw [hv] at hr
      have hcst : ((k : Int) - 1) = ((k - 1 : Nat) : Int) := by omega
      have hk1 : k - 1 < k := by omega
      clear hp hv
      generalize k - 1 = k1 at hc1 hcst hk1
      have hk1' : (k1 : Int) < (k : Int) := by omega
      by_cases h20 : s.size ≤ 20
      · by_cases h97 : (97 : Int) ≤ ((p[0]'h0).toNat : Int)
        · by_cases h122 : ((p[0]'h0).toNat : Int) ≤ 122
          · have er : r = true := by rw [← hr.out, decide_eq_true h20, inR_true.2 (by omega)]; rfl
            replace er := Lib.hid er
            go_wp2_with fail
            go_ret
            exact ⟨by rw [er.out]; rfl, hB⟩
          · have er : r = false := by rw [← hr.out, inR_false.2 (by omega), Bool.and_false]
            replace er := Lib.hid er
            go_wp2_with fail
            go_ret
            exact ⟨by rw [er.out]; rfl, hB⟩
        · have er : r = false := by rw [← hr.out, inR_false.2 (by omega), Bool.and_false]
          replace er := Lib.hid er
          go_wp2_with fail
          go_ret
          exact ⟨by rw [er.out]; rfl, hB⟩
      · have er : r = false := by rw [← hr.out, decide_eq_false h20]; rfl
        replace er := Lib.hid er
        go_wp2_with fail
        go_ret
        exact ⟨by rw [er.out]; rfl, hB⟩
end Go.Proofs.YthgfldabeaepaaaGreatDoor
