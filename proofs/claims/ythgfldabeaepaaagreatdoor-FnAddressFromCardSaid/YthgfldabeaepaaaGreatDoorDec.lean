/- What l6Dec and l2Quad return. No condition. -/
import Derived.Test.YthgfldabeaepaaaGreatDoorEnv
import Derived.Test.YthgfldabeaepaaaGreatDoorBytes
import Derived.Test.YthgfldabeaepaaaGreatDoorAny
import Derived.Lib.QuietBelow
import Derived.Laws.BytesArg
import Derived.Deep.RegionHeld3
import Derived.Deep.DeepCutAuto
namespace Go.Proofs.YthgfldabeaepaaaGreatDoor
open Go.RowKit

/-- The text of letters. -/
abbrev txt (l : List UInt8) : ByteArray := ⟨l.toArray⟩
theorem txt_append (a b : List UInt8) : txt a ++ txt b = txt (a ++ b) := by
  apply lets_inj
  simp [lets, txt]
theorem txt_size (l : List UInt8) : (txt l).size = l.length := by rw [← lets_length]
theorem Tryz.infoU8d : (Tryz.prog.info? 5).map (fun i => (i.zero, i.size, i.bytes)) = some (some (.int .u8 0), 1, 1) := by kernel_rfl
/-- One letter as a string. -/
theorem conv_one (w : World) (b : Nat) (x : Int) (hc : w.cell? ⟨b, 0, none⟩ = some (.int .u8 x)) :
    (convert 22 9 (.slice (some ⟨b, 0, none⟩) 1 1)).run Tryz.prog w = .ok (.string (strOfNums [x])) w := by
  refine run_convert_bytes_arg w 22 5 Tryz.underlying22 Tryz.underlying5 b 0 1 1 [x] rfl (fun i hi => ?_) 9 Tryz.underlying9
  have : i = 0 := by simpa using hi
  subst this
  exact hc
theorem strOne (d : Nat) (hd : d < 10) : strOfNums [48 + (d : Int)] = txt [UInt8.ofNat (48 + d)] := by
  apply lets_inj
  show (strOfNums [48 + (d : Int)]).data.toList = [UInt8.ofNat (48 + d)]
  rw [strOfNums_data]
  have e : (48 + (d : Int)).toNat = 48 + d := by omega
  simp only [List.map_cons, List.map_nil, e]
set_option maxRecDepth 20000 in
set_option maxHeartbeats 2000000 in
theorem l6Dec_any (n : Nat) (hn : n ≤ 1000000) (w : World) : Calls Tryz.prog 28 #[.int .i64 n] w fun e w' => e = .returned (.string (txt (Lib.decDigits n))) ∧ Below w.heap.size w w' := by
  induction n using Nat.strongRecOn generalizing w with
  | ind n ih =>
    by_cases h : n < 10
    · have hs := strOne n h
      have hd : Lib.decDigits n = [UInt8.ofNat (48 + n)] := by rw [Lib.decDigits, dif_pos h]
      have hcv := conv_one (w.alloc (.cells #[.int .u8 (48 + (n : Int))] 5)) w.heap.size (48 + (n : Int)) (by rw [cell_of_row _ _ 0 _ _ (0, 0) (heap_alloc_new w _)]; rfl)
      obtain ⟨T, hT⟩ : ∃ T, T = txt [UInt8.ofNat (48 + n)] := ⟨_, rfl⟩
      rw [hd, ← hT]
      rw [hs, ← hT] at hcv
      clear ih hs hd hT
      go_enter Tryz.func28, Tryz.ntmps28
      go_wp2_with fail
      go_ret
      exact ⟨rfl, by go_grown⟩
    · obtain ⟨q, hq⟩ : ∃ q : Nat, q = n / 10 := ⟨_, rfl⟩
      obtain ⟨d, hd⟩ : ∃ d : Nat, d = n % 10 := ⟨_, rfl⟩
      have hq1 : (n : Int).tdiv 10 = (q : Int) := by rw [Int.tdiv_eq_ediv_of_nonneg (by omega)]; omega
      have hd1 : (n : Int).tmod 10 = (d : Int) := by rw [Int.tmod_eq_emod_of_nonneg (by omega)]; omega
      have hq2 : (n : Int) / 10 = (q : Int) := by omega
      have hd2 : (n : Int) % 10 = (d : Int) := by omega
      have hd10 : d < 10 := by omega
      have hqw : IntKind.i64.wrap (q : Int) = (q : Int) := by rw [IntKind.wrap_i64]; omega
      have hdw : IntKind.i64.wrap (d : Int) = (d : Int) := by rw [IntKind.wrap_i64]; omega
      have hdig : Lib.decDigits n = Lib.decDigits q ++ [UInt8.ofNat (48 + d)] := by rw [Lib.decDigits, dif_neg h, hq, hd]
      have hlen : (Lib.decDigits q).length ≤ 21 := by
        have h1 := Lib.nDigits_le20 q (by omega)
        rw [Lib.decDigits_length]
        omega
      obtain ⟨T1, hT1⟩ : ∃ T1, T1 = txt (Lib.decDigits q) := ⟨_, rfl⟩
      obtain ⟨T2, hT2⟩ : ∃ T2, T2 = txt [UInt8.ofNat (48 + d)] := ⟨_, rfl⟩
      have hfin : txt (Lib.decDigits n) = T1 ++ T2 := by rw [hdig, hT1, hT2, txt_append]
      have hlen1 : T1.size ≤ 21 := by rw [hT1, txt_size]; exact hlen
      have hlen2 : T2.size = 1 := by rw [hT2]; rfl
      have hcv : ∀ (wz : World) (b : Nat), wz.cell? ⟨b, 0, none⟩ = some (.int .u8 (48 + (d : Int))) → (convert 22 9 (.slice (some ⟨b, 0, none⟩) 1 1)).run Tryz.prog wz = .ok (.string T2) wz := by
        intro wz b hc
        rw [conv_one wz b _ hc, strOne d hd10, hT2]
      have hih : ∀ wz : World, Calls Tryz.prog 28 #[.int .i64 q] wz fun e w' => e = .returned (.string T1) ∧ Below wz.heap.size wz w' := by
        intro wz
        rw [hT1]
        exact ih q (by omega) (by omega) wz
      have hu8 : IntKind.u8.wrap (48 + (d : Int)) = 48 + (d : Int) := by rw [IntKind.wrap_u8]; omega
      have hi8 : IntKind.i64.wrap (48 + (d : Int)) = 48 + (d : Int) := by rw [IntKind.wrap_i64]; omega
      have c3 := hcv (w.alloc (.cells #[.int .u8 (48 + (d : Int))] 5)) w.heap.size (by rw [cell_of_row _ _ 0 _ _ (0, 0) (heap_alloc_new w _)]; rfl)
      have c3d := hcv (w.alloc (.cells #[.int .u8 (48 + (d : Int))] 5)).drew w.heap.size (by show (w.alloc (.cells #[.int .u8 (48 + (d : Int))] 5)).cell? _ = _; rw [cell_of_row _ _ 0 _ _ (0, 0) (heap_alloc_new w _)]; rfl)
      replace hq := Lib.hid hq
      replace hd := Lib.hid hd
      replace hdig := Lib.hid hdig
      replace hfin := Lib.hid hfin
      replace hcv := Lib.hid hcv
      replace hih := Lib.hid hih
      clear ih hT1 hT2 hlen
      go_enter Tryz.func28, Tryz.ntmps28
      go_upto_region 7 with fail
      go_cut [2] (fun v wx => v = .string (T1 ++ T2) ∧ Below w.heap.size w wx)
      case first =>
        go_region_with (
            (go_at_call 28
             refine (hih.out _).mono ?_
             rintro e wn ⟨rfl, hbn⟩
             have hBn : Below w.heap.size w wn := bstep (by go_grown) hbn
             have hsn := hBn.size
             have c1 := hcv.out (wn.alloc (.cells #[.int .u8 (48 + (d : Int))] 5)) wn.heap.size (by rw [cell_of_row _ _ 0 _ _ (0, 0) (heap_alloc_new wn _)]; rfl)
             have c1d := hcv.out (wn.alloc (.cells #[.int .u8 (48 + (d : Int))] 5)).drew wn.heap.size (by show (wn.alloc (.cells #[.int .u8 (48 + (d : Int))] 5)).cell? _ = _; rw [cell_of_row _ _ 0 _ _ (0, 0) (heap_alloc_new wn _)]; rfl)
             try
               (have kb : wn.heap[w.heap.size]? = some (.cells #[.int .u8 (48 + (d : Int))] 5 (0, 0)) := (hbn.block w.heap.size (by simp)).trans (by exact heap_alloc_new w _)
                have c2 := hcv.out wn w.heap.size (by rw [cell_of_row _ _ 0 _ _ (0, 0) kb]; rfl)
                have c2d := hcv.out wn.drew w.heap.size (by show wn.cell? _ = _; rw [cell_of_row _ _ 0 _ _ (0, 0) kb]; rfl))))
        all_goals
          go_wp2_with fail
          go_meet
          first
            | exact ⟨rfl, hBn⟩
            | exact ⟨rfl, hBn.alloc hsn _⟩
            | exact ⟨rfl, (hBn.alloc hsn _).drew⟩
      case rest =>
        obtain ⟨rfl, hB⟩ := hcut
        go_wp2_with fail
        go_ret
        exact ⟨by rw [hfin.out]; rfl, hB⟩
end Go.Proofs.YthgfldabeaepaaaGreatDoor
