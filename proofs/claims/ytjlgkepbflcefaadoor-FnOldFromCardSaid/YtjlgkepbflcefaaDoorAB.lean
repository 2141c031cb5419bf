/- An address as bytes. No condition. -/
import Derived.Test.YtjlgkepbflcefaaDoorStep
import Derived.Test.YtjlgkepbflcefaaDoorAd
import Derived.Test.YtjlgkepbflcefaaDoorNum
import Derived.Test.YtjlgkepbflcefaaDoorText
import Derived.Deep.RegionLaw
import Derived.Deep.DeepCutAuto
namespace Go.Proofs.YtjlgkepbflcefaaDoor
open Go.RowKit
theorem own_cells (w : World) (e : TypeId) (cs : Array Value) (n : Nat) (hn : n ≤ 1000000) (h : cs.size = n) : (w.alloc (.cells cs e)).ownsRow w.heap.size e 1 (.slice (some ⟨w.heap.size, 0, none⟩) n n) n cs.toList := World.ownsRow_lit _ _ n (Nat.le_refl _) (by unfold maxLen; omega) (by omega)
theorem below_drewR {B : Nat} {w w' : World} (h : Below B w w') : Below B w w'.drew := ⟨h.os, h.tape, h.output, h.size, h.block⟩
set_option maxRecDepth 20000 in
set_option maxHeartbeats 4000000 in
theorem addressBytes_fn (a : Ad) (A : Option Addr) (n c : Nat) (w : World) (hx : Rd w A n (ints a.quad)) (hv : adV a = true) :
    Calls Tryd.prog 54 #[adVal a A n c] w (RetI w (adB a)) := by
  have hname := adV_name hv
  have hport := (adV_true.1 hv).1
  have hl := hx.ilen
  have e0 := own_cells (w.alloc (.cells #[.int .i64 a.kind, .slice A n c, .string a.name, .int .i64 a.port] 24)) 3 #[.int .i64 a.kind] 1 (by omega) rfl
  rw [World.size_alloc] at e0
  have k0 : ((w.alloc (.cells #[.int .i64 a.kind, .slice A n c, .string a.name, .int .i64 a.port] 24)).alloc (.cells #[.int .i64 a.kind] 3)).heap[w.heap.size]? = some (.cells #[.int .i64 a.kind, .slice A n c, .string a.name, .int .i64 a.port] 24 (0, 0)) := by
    rw [heap_alloc_old _ _ (by simp)]
    exact heap_alloc_new w _
  have hB0 : Below w.heap.size w ((w.alloc (.cells #[.int .i64 a.kind, .slice A n c, .string a.name, .int .i64 a.port] 24)).alloc (.cells #[.int .i64 a.kind] 3)) := by go_grown
  by_cases hk1 : a.kind = 1
  case pos =>
    have hq : n ≤ 4 := by
      obtain ⟨_, h | h⟩ := adV_true.1 hv
      · have := (qv_true.1 h.2.1).1; omega
      · have := h.1; omega
    have hA : adB a = [a.kind] ++ a.quad ++ nb a.port 2 := by simp [adB, hostB, hk1]
    rw [hA]
    have hx0 := (hx.alloc (.cells #[.int .i64 a.kind, .slice A n c, .string a.name, .int .i64 a.port] 24)).alloc (.cells #[.int .i64 a.kind] 3)
    have hkb : (a.kind == 1) = true := by simpa using hk1
    clear hA hv hk1
    go_enter Tryd.func54, Tryd.ntmps54
    go_wp2_with (at_builtin; refine wpList_append_rd _ rfl _ _ rfl (w.heap.size + 1) _ 1 1 [a.kind] rfl e0 A n c a.quad rfl hx0 (by omega) (by simp) ?_)
    intro A1 c1 w1 ho1 hg1
    replace hg1 : World.grownBy _ w1 (some (w.heap.size + 1)) := hg1
    have hB1 := bgrow hB0 hg1 fun k hk => by injection hk with hk; omega
    replace k0 := (hg1.block w.heap.size (by simp; omega) (fun h => by injection h with h; omega)).trans k0
    have hs1 : w.heap.size + 1 ≤ w1.heap.size := by have := hg1.size; simp at this; omega
    obtain ⟨_, _, _, c3⟩ := box_cells k0
    clear hg1 hx0 e0 hx hB0 k0
    go_wp2_with fail
    refine (numberBytes_any a.port (by omega) 2 (by omega) _).mono ?_
    rintro e w2 ⟨A2, n2, c2, rfl, ho2, hb2⟩
    have ho1' := own_below ho1 hb2
    have hr2 := Rd.own ho2
    have hl2 := hr2.ilen
    rw [nb_length] at hl2
    subst hl2
    have hB2 := bstep hB1 hb2
    have hs2 := hb2.size
    clear ho1 hB1 hb2 ho2
    go_wp2_with (at_builtin; refine wpList_append_rd _ rfl _ _ rfl (w.heap.size + 1) _ _ _ ([a.kind] ++ a.quad) rfl ho1' A2 2 c2 (nb a.port 2) rfl hr2 (by omega) (by omega) ?_)
    intro A3 c3' w3 ho3 hg3
    have hB3 := bgrow hB2 hg3 fun k hk => by have := own_frees ho1' k hk; omega
    go_wp2_with fail
    go_ret
    exact ⟨_, _, _, rfl, by simpa [ints] using own_base (B := w.heap.size) ho3 (by omega), hB3⟩
  case neg =>
    have hk3 : a.kind = 3 := by
      obtain ⟨_, h | h⟩ := adV_true.1 hv
      · exact absurd h.1 hk1
      · exact h.1
    have hA : adB a = [a.kind] ++ [(a.name.size : Int)] ++ sInts a.name ++ nb a.port 2 := by simp [adB, hostB, hk1]
    rw [hA]
    have hkb : (a.kind == 1) = false := by simpa using hk1
    clear hA hv hl hx hk1 hk3
    go_enter Tryd.func54, Tryd.ntmps54
    go_upto_region 4 with fail
    go_cut [3] (fun v wx => ∃ A1 n1 c1, v = .slice A1 n1 c1 ∧ n1 ≤ 22 ∧ wx.ownsRow (w.heap.size + 1) 3 1 (.slice A1 n1 c1) n1 (ints ([a.kind] ++ [(a.name.size : Int)] ++ sInts a.name)) ∧ Below w.heap.size w wx ∧ w.heap.size + 1 ≤ wx.heap.size ∧ wx.cell? ⟨w.heap.size, 3, none⟩ = some (.int .i64 a.port))
    case first =>
      generalize (w.alloc (.cells #[.int .i64 a.kind, .slice A n c, .string a.name, .int .i64 a.port] 24)).alloc (.cells #[.int .i64 a.kind] 3) = w1 at e0 k0 hB0 ⊢
      have hs1 : w.heap.size + 2 ≤ w1.heap.size := by have h : w.heap.size + 1 < w1.heap.size := (e0.lt _ rfl).2; omega
      have hs1d : w.heap.size + 2 ≤ w1.drew.heap.size := hs1
      have hlt1 : w.heap.size < w1.heap.size := by omega
      have hlt1a : w.heap.size < w1.heap.size + 1 := by omega
      obtain ⟨_, _, c2, _⟩ := box_cells k0
      have kd : w1.drew.heap[w.heap.size]? = some (.cells #[.int .i64 a.kind, .slice A n c, .string a.name, .int .i64 a.port] 24 (0, 0)) := k0
      have od : w1.drew.ownsRow (w.heap.size + 1) 3 1 (.slice (some ⟨w.heap.size + 1, 0, none⟩) 1 1) 1 (ints [a.kind]) := e0
      have hBd : Below w.heap.size w w1.drew := ⟨hB0.os, hB0.tape, hB0.output, hB0.size, hB0.block⟩
      replace k0 := Lib.hid k0
      replace kd := Lib.hid kd
      go_region_law (first
        | (refine step_append_rd _ rfl _ _ rfl (w.heap.size + 1) (some ⟨w.heap.size + 1, 0, none⟩) 1 1 [a.kind] rfl ?_ (some ⟨_, 0, none⟩) 1 1 [(a.name.size : Int)] rfl ?_ (by omega) ?_ ?_
           · first | exact od.alloc _ | exact (e0.alloc _).drew | exact own_below (od.alloc _) hb22 | exact own_below (e0.alloc _).drew hb22 | exact (own_below od hb22).alloc _
           · first | exact rd_lit _ 3 #[.int .i64 (a.name.size : Int)] 1 (by omega) rfl | exact (rd_lit w1 3 #[.int .i64 (a.name.size : Int)] 1 (by omega) rfl).drew | exact (rd_lit _ 3 #[.int .i64 (a.name.size : Int)] 1 (by omega) rfl).below hb22 | exact ((rd_lit w1 3 #[.int .i64 (a.name.size : Int)] 1 (by omega) rfl).drew).below hb22
           · first | omega | (simp <;> omega)
           intro A19 c19 w19 ho19 hg19
           replace hg19 : World.grownBy _ w19 (some (w.heap.size + 1)) := hg19
           have k19 : Hid (w19.heap[w.heap.size]? = some (.cells #[.int .i64 a.kind, .slice A n c, .string a.name, .int .i64 a.port] 24 (0, 0))) := by
             refine (hg19.block w.heap.size (by first | omega | (simp <;> omega)) (fun h => by injection h with h; omega)).trans ?_
             first | exact k22.out | exact (heap_alloc_old _ _ (by first | omega | (simp <;> omega))).trans kd.out | exact (heap_alloc_old w1 _ (by omega)).trans k0.out | exact (heap_alloc_old _ _ (by first | omega | (simp <;> omega))).trans k22.out
           obtain ⟨_, _, c2_19, c3_19⟩ := box_cells k19.out
           have hs19 : w.heap.size + 2 ≤ w19.heap.size := by have := hg19.size; first | omega | (simp at this; omega)
           have hlt19 : w.heap.size < w19.heap.size := by omega
           have hB19 : Below w.heap.size w w19 := by
             refine bgrow (w1 := _) ?_ hg19 fun k hk => by injection hk with hk; omega
             first | exact hB22 | exact hBd.alloc (by omega) _ | exact below_drewR (hB0.alloc (by omega) _) | exact hB22.alloc (by omega) _)
        | (go_simp
           go_at_call 58
           refine (textBytes_fn a.name _ (by omega)).mono ?_
           rintro e w22 ⟨A22, n22, c22, rfl, ho22, hb22⟩
           obtain rfl : n22 = a.name.size := by have := (Rd.own ho22).ilen; rw [sInts_length] at this; omega
           have k22 : Hid (w22.heap[w.heap.size]? = some (.cells #[.int .i64 a.kind, .slice A n c, .string a.name, .int .i64 a.port] 24 (0, 0))) := by
             refine (hb22.block w.heap.size ?_).trans ?_
             · first | omega | (simp <;> omega)
             · first | exact k19.out | exact kd.out | exact (heap_alloc_old _ _ (by omega)).trans kd.out | exact (heap_alloc_old w1 _ (by omega)).trans k0.out
           obtain ⟨_, _, c2_22, c3_22⟩ := box_cells k22.out
           have hs22 : w.heap.size + 2 ≤ w22.heap.size := by have := hb22.size; first | omega | (simp at this; omega)
           have hlt22 : w.heap.size < w22.heap.size := by omega
           have hlt22a : w.heap.size < w22.heap.size + 1 := by omega
           have hB22 : Below w.heap.size w w22 := by
             refine bstep ?_ hb22
             first | exact hB19 | exact hBd | exact hBd.alloc (by omega) _ | exact below_drewR (hB0.alloc (by omega) _))
        | (refine step_append_rd _ rfl _ _ rfl (w.heap.size + 1) A19 (1 + 1) c19 ([a.kind] ++ [(a.name.size : Int)]) rfl ?_ A22 a.name.size c22 (sInts a.name) rfl ?_ (by omega) (by omega) ?_
           · first | exact ho19 | exact own_below ho19 hb22
           · first | exact Rd.own ho22 | exact Rd.own (own_pick (g := w.heap.size + 1) ho22 hg19 (by first | omega | (simp <;> omega))) | exact Rd.own (own_pick (g := w.heap.size + 1) (ho22.alloc _) hg19 (by first | omega | (simp <;> omega)))
           intro A23 c23 w23 ho23 hg23
           have hfr : ∀ k, Value.ownBlock (.slice A19 (1 + 1) c19) = some k → w.heap.size + 1 ≤ k := own_frees ho19
           have c3_23 : w23.cell? ⟨w.heap.size, 3, none⟩ = some (.int .i64 a.port) := by
             refine (box_cells (t := 24) (v0 := .int .i64 a.kind) (v1 := .slice A n c) (v2 := .string a.name) ?_).2.2.2
             refine (hg23.block w.heap.size (by omega) (fun h => by have := hfr _ h.symm; omega)).trans ?_
             first | exact k22.out | exact k19.out
           have hs23 : w.heap.size + 1 ≤ w23.heap.size := by have := hg23.size; omega
           have hB23 : Below w.heap.size w w23 := by
             refine bgrow (w1 := _) ?_ hg23 fun k hk => by have := hfr k hk; omega
             first | exact hB22 | exact hB19))
      all_goals
        go_wp2_with fail
        go_meet
        exact ⟨A23, _, c23, rfl, by omega, ho23, hB23, hs23, c3_23⟩
    case rest =>
      obtain ⟨A1, n1, c1, rfl, hn1, ho1, hB1, hs1, c3⟩ := hcut
      clear e0 k0 hB0
      go_wp2_with fail
      refine (numberBytes_any a.port (by omega) 2 (by omega) _).mono ?_
      rintro e w2 ⟨A2, n2, c2, rfl, ho2, hb2⟩
      have ho1' := own_below ho1 hb2
      have hr2 := Rd.own ho2
      have hl2 := hr2.ilen
      rw [nb_length] at hl2
      subst hl2
      have hB2 := bstep hB1 hb2
      have hs2 := hb2.size
      clear ho1 hB1 hb2 ho2
      go_wp2_with (at_builtin; refine wpList_append_rd _ rfl _ _ rfl (w.heap.size + 1) _ _ _ ([a.kind] ++ [(a.name.size : Int)] ++ sInts a.name) rfl ho1' A2 2 c2 (nb a.port 2) rfl hr2 (by omega) (by omega) ?_)
      intro A3 c3' w3 ho3 hg3
      have hB3 := bgrow hB2 hg3 fun k hk => by have := own_frees ho1' k hk; omega
      go_wp2_with fail
      go_ret
      exact ⟨_, _, _, rfl, by simpa [ints] using own_base (B := w.heap.size) ho3 (by omega), hB3⟩
set_option maxRecDepth 20000 in
set_option maxHeartbeats 4000000 in
theorem l3Bytes_any (a : Ad) (A : Option Addr) (n c : Nat) (w : World) (hx : Rd w A n (ints a.quad)) (hv : adV a = true) :
    Calls Tryd.prog 76 #[adVal a A n c] w (RetI w (adB a)) := by
  have hname := adV_name hv
  have hport := (adV_true.1 hv).1
  have hl := hx.ilen
  have e0 := own_cells (w.alloc (.cells #[.int .i64 a.kind, .slice A n c, .string a.name, .int .i64 a.port] 24)) 3 #[.int .i64 a.kind] 1 (by omega) rfl
  rw [World.size_alloc] at e0
  have k0 : ((w.alloc (.cells #[.int .i64 a.kind, .slice A n c, .string a.name, .int .i64 a.port] 24)).alloc (.cells #[.int .i64 a.kind] 3)).heap[w.heap.size]? = some (.cells #[.int .i64 a.kind, .slice A n c, .string a.name, .int .i64 a.port] 24 (0, 0)) := by
    rw [heap_alloc_old _ _ (by simp)]
    exact heap_alloc_new w _
  have hB0 : Below w.heap.size w ((w.alloc (.cells #[.int .i64 a.kind, .slice A n c, .string a.name, .int .i64 a.port] 24)).alloc (.cells #[.int .i64 a.kind] 3)) := by go_grown
  by_cases hk1 : a.kind = 1
  case pos =>
    have hq : n ≤ 4 := by
      obtain ⟨_, h | h⟩ := adV_true.1 hv
      · have := (qv_true.1 h.2.1).1; omega
      · have := h.1; omega
    have hA : adB a = [a.kind] ++ a.quad ++ nb a.port 2 := by simp [adB, hostB, hk1]
    rw [hA]
    have hx0 := (hx.alloc (.cells #[.int .i64 a.kind, .slice A n c, .string a.name, .int .i64 a.port] 24)).alloc (.cells #[.int .i64 a.kind] 3)
    have hkb : (a.kind == 1) = true := by simpa using hk1
    clear hA hv hk1
    go_enter Tryd.func76, Tryd.ntmps76
    go_wp2_with (at_builtin; refine wpList_append_rd _ rfl _ _ rfl (w.heap.size + 1) _ 1 1 [a.kind] rfl e0 A n c a.quad rfl hx0 (by omega) (by simp) ?_)
    intro A1 c1 w1 ho1 hg1
    replace hg1 : World.grownBy _ w1 (some (w.heap.size + 1)) := hg1
    have hB1 := bgrow hB0 hg1 fun k hk => by injection hk with hk; omega
    replace k0 := (hg1.block w.heap.size (by simp; omega) (fun h => by injection h with h; omega)).trans k0
    have hs1 : w.heap.size + 1 ≤ w1.heap.size := by have := hg1.size; simp at this; omega
    obtain ⟨_, _, _, c3⟩ := box_cells k0
    clear hg1 hx0 e0 hx hB0 k0
    go_wp2_with fail
    refine (l1Number_any a.port (by omega) 2 (by omega) _).mono ?_
    rintro e w2 ⟨A2, n2, c2, rfl, ho2, hb2⟩
    have ho1' := own_below ho1 hb2
    have hr2 := Rd.own ho2
    have hl2 := hr2.ilen
    rw [nb_length] at hl2
    subst hl2
    have hB2 := bstep hB1 hb2
    have hs2 := hb2.size
    clear ho1 hB1 hb2 ho2
    go_wp2_with (at_builtin; refine wpList_append_rd _ rfl _ _ rfl (w.heap.size + 1) _ _ _ ([a.kind] ++ a.quad) rfl ho1' A2 2 c2 (nb a.port 2) rfl hr2 (by omega) (by omega) ?_)
    intro A3 c3' w3 ho3 hg3
    have hB3 := bgrow hB2 hg3 fun k hk => by have := own_frees ho1' k hk; omega
    go_wp2_with fail
    go_ret
    exact ⟨_, _, _, rfl, by simpa [ints] using own_base (B := w.heap.size) ho3 (by omega), hB3⟩
  case neg =>
    have hA : adB a = [a.kind] ++ [(a.name.size : Int)] ++ sInts a.name ++ nb a.port 2 := by simp [adB, hostB, hk1]
    rw [hA]
    have hkb : (a.kind == 1) = false := by simpa using hk1
    clear hA hv hl hx hk1
    generalize hw1 : (w.alloc (.cells #[.int .i64 a.kind, .slice A n c, .string a.name, .int .i64 a.port] 24)).alloc (.cells #[.int .i64 a.kind] 3) = w1 at e0 k0 hB0
    have hs1 : w.heap.size + 2 ≤ w1.heap.size := by have h : w.heap.size + 1 < w1.heap.size := (e0.lt _ rfl).2; omega
    have hlt1 : w.heap.size < w1.heap.size := by omega
    obtain ⟨c0, c1, c2, c3⟩ := box_cells k0
    have e1 := e0.alloc (.cells #[.int .i64 (a.name.size : Int)] 3)
    have x1 := rd_lit w1 3 #[.int .i64 (a.name.size : Int)] 1 (by omega) rfl
    have kk1 := (heap_alloc_old w1 (.cells #[.int .i64 (a.name.size : Int)] 3) hlt1).trans k0
    have hBB1 := hB0.alloc (by omega) (.cells #[.int .i64 (a.name.size : Int)] 3)
    clear e0 k0 hB0
    go_enter Tryd.func76, Tryd.ntmps76
    go_upto_region 4 with fail
    clear hw1
    go_wp2_with (at_builtin; refine wpList_append_rd _ rfl _ _ rfl (w.heap.size + 1) _ 1 1 [a.kind] rfl e1 _ 1 1 [(a.name.size : Int)] rfl x1 (by omega) (by simp; omega) ?_)
    intro A2 c2' w2 ho2 hg2
    replace hg2 : World.grownBy _ w2 (some (w.heap.size + 1)) := hg2
    have hB2 := bgrow hBB1 hg2 fun k hk => by injection hk with hk; omega
    replace kk1 := (hg2.block w.heap.size (by simp; omega) (fun h => by injection h with h; omega)).trans kk1
    have hs2 : w.heap.size + 1 ≤ w2.heap.size := by have := hg2.size; simp at this; omega
    obtain ⟨_, _, d2, d3⟩ := box_cells kk1
    clear hg2 hBB1 c0 c1 c2 c3 e1 x1
    go_wp2_with fail
    refine (l1Text_any a.name _ (by omega)).mono ?_
    rintro e w3 ⟨A3, n3, c3, rfl, ho3, hb3⟩
    have ho2' := own_below ho2 hb3
    have hr3 := Rd.own ho3
    obtain rfl : n3 = a.name.size := by have := hr3.ilen; rw [sInts_length] at this; omega
    have hB3 := bstep hB2 hb3
    have hs3 := hb3.size
    replace kk1 := (hb3.block w.heap.size (by omega)).trans kk1
    clear ho2 hB2 hb3 ho3 d2 d3
    go_wp2_with (at_builtin; refine wpList_append_rd _ rfl _ _ rfl (w.heap.size + 1) _ _ _ ([a.kind] ++ [(a.name.size : Int)]) rfl ho2' A3 a.name.size c3 (sInts a.name) rfl hr3 (by omega) (by omega) ?_)
    intro A4 c4 w4 ho4 hg4
    have hfr := own_frees ho2'
    have hB4 := bgrow hB3 hg4 fun k hk => by have := hfr k hk; omega
    replace kk1 := (hg4.block w.heap.size (by omega) (fun h => by have := hfr _ h.symm; omega)).trans kk1
    have hs4 := hg4.size
    obtain ⟨_, _, _, d3⟩ := box_cells kk1
    clear hg4 hB3 ho2' hfr hr3
    go_wp2_with fail
    refine (l1Number_any a.port (by omega) 2 (by omega) _).mono ?_
    rintro e w5 ⟨A5, n5, c5, rfl, ho5, hb5⟩
    have ho4' := own_below ho4 hb5
    have hr5 := Rd.own ho5
    have hl5 := hr5.ilen
    rw [nb_length] at hl5
    subst hl5
    have hB5 := bstep hB4 hb5
    have hs5 := hb5.size
    clear ho4 hB4 hb5 ho5
    go_wp2_with (at_builtin; refine wpList_append_rd _ rfl _ _ rfl (w.heap.size + 1) _ _ _ ([a.kind] ++ [(a.name.size : Int)] ++ sInts a.name) rfl ho4' A5 2 c5 (nb a.port 2) rfl hr5 (by omega) (by omega) ?_)
    intro A6 c6 w6 ho6 hg6
    have hB6 := bgrow hB5 hg6 fun k hk => by have := own_frees ho4' k hk; omega
    go_wp2_with fail
    go_ret
    exact ⟨_, _, _, rfl, by simpa [ints] using own_base (B := w.heap.size) ho6 (by omega), hB6⟩
theorem addressBytes_impl (a : Ad) (A : Option Addr) (n c : Nat) (w : World) (hM : EnvM w) (hx : Rd w A n (ints a.quad)) (hs : a.name.size ≤ 4000000) (zs : List Int) (b : Bool) (h : adW a = (zs, b)) :
    Calls Tryd.prog 25 #[adVal a A n c] w (RetIB w zs b) := by
  have k0 := heap_alloc_new w (.cells #[.int .i64 a.kind, .slice A n c, .string a.name, .int .i64 a.port] 24)
  obtain ⟨r, hr⟩ : ∃ r, adV a = r := ⟨_, rfl⟩
  unfold adW at h
  rw [hr] at h
  replace hr := Lib.hid hr
  go_enter Tryd.func25, Tryd.ntmps25
  go_wp2_with fail
  have hB0 : Below w.heap.size w (w.alloc (.cells #[.int .i64 a.kind, .slice A n c, .string a.name, .int .i64 a.port] 24)) := by go_grown
  refine (addressValid_impl a A n c _ (hM.step hB0) (hx.below hB0) hs _ hr.out).mono ?_
  rintro e w1 ⟨rfl, hb1⟩
  have hB1 := bstep hB0 hb1
  replace hx := hx.below hB1
  replace k0 := (hb1.block _ (by simp)).trans k0
  obtain ⟨c0, c1, c2, c3⟩ := box_cells k0
  clear hb1 hB0 k0
  cases r
  · simp only [Bool.false_eq_true, if_false, Prod.mk.injEq] at h
    obtain ⟨rfl, rfl⟩ := h
    go_wp2_with fail
    go_ret2
    exact ⟨none, 0, 0, rfl, World.ownsRow_nil _ _ _ _, hB1⟩
  · simp only [if_true, Prod.mk.injEq] at h
    obtain ⟨rfl, rfl⟩ := h
    go_wp2_with fail
    refine (addressBytes_fn a A n c _ hx hr.out).mono ?_
    rintro e w2 ⟨A2, n2, c2', rfl, ho2, hb2⟩
    have hsz := hB1.size
    go_wp2_with fail
    go_ret2
    exact ⟨A2, n2, c2', rfl, own_base ho2 hsz, bstep hB1 hb2⟩
theorem addressBytes_spec (a : Ad) (A : Option Addr) (n c : Nat) (w : World) (hx : Rd w A n (ints a.quad)) (hs : a.name.size ≤ 4000000) (zs : List Int) (b : Bool) (h : adW a = (zs, b)) :
    Calls Tryd.prog 50 #[adVal a A n c] w (RetIB w zs b) := by
  have k0 := heap_alloc_new w (.cells #[.int .i64 a.kind, .slice A n c, .string a.name, .int .i64 a.port] 24)
  obtain ⟨r, hr⟩ : ∃ r, adV a = r := ⟨_, rfl⟩
  unfold adW at h
  rw [hr] at h
  replace hr := Lib.hid hr
  go_enter Tryd.func50, Tryd.ntmps50
  go_wp2_with fail
  have hB0 : Below w.heap.size w (w.alloc (.cells #[.int .i64 a.kind, .slice A n c, .string a.name, .int .i64 a.port] 24)) := by go_grown
  refine (addressValid_spec a A n c _ (hx.below hB0) hs _ hr.out).mono ?_
  rintro e w1 ⟨rfl, hb1⟩
  have hB1 := bstep hB0 hb1
  have hsz := hB1.size
  replace hx := hx.below hB1
  replace k0 := (hb1.block _ (by simp)).trans k0
  obtain ⟨c0, c1, c2, c3⟩ := box_cells k0
  clear hb1 hB0 k0
  cases r
  · simp only [Bool.false_eq_true, if_false, Prod.mk.injEq] at h
    obtain ⟨rfl, rfl⟩ := h
    go_wp2_with fail
    go_ret2
    exact ⟨_, 0, 0, rfl, own_base (own_empty w1) hsz, by go_grown⟩
  · simp only [if_true, Prod.mk.injEq] at h
    obtain ⟨rfl, rfl⟩ := h
    go_wp2_with fail
    refine (l3Bytes_any a A n c _ hx hr.out).mono ?_
    rintro e w2 ⟨A2, n2, c2', rfl, ho2, hb2⟩
    go_wp2_with fail
    go_ret2
    exact ⟨A2, n2, c2', rfl, own_base ho2 hsz, bstep hB1 hb2⟩
end Go.Proofs.YtjlgkepbflcefaaDoor
