/- Addresses as values: copying, comparing, counting. No condition. -/
import Derived.Test.YthgfldabeaepaaaDoorEnv
import Derived.Test.YthgfldabeaepaaaDoorAddr
import Derived.Test.YthgfldabeaepaaaDoorBytes
import Derived.Test.YthgfldabeaepaaaDoorName
namespace Go.Proofs.YthgfldabeaepaaaDoor
open Go.RowKit

/-- The value of an address whose bytes lie in '.slice A n c'. -/
abbrev adVal (a : Ad) (A : Option Addr) (n c : Nat) : Value := .agg #[.int .i64 a.kind, .slice A n c, .string a.name, .int .i64 a.port]
/-- Block b holds an address. -/
def AdAt (w : World) (b : Nat) (a : Ad) (A : Option Addr) (n c : Nat) : Prop := w.cell? ⟨b, 0, none⟩ = some (.int .i64 a.kind) ∧ w.cell? ⟨b, 1, none⟩ = some (.slice A n c) ∧ w.cell? ⟨b, 2, none⟩ = some (.string a.name) ∧ w.cell? ⟨b, 3, none⟩ = some (.int .i64 a.port)
theorem calls_gen {P : Program} {f : FuncId} {args : Array Value} {w : World} {Q : Ending → World → Prop} (h : ∀ wA, wA = w → Calls P f args wA Q) : Calls P f args w Q := h w rfl
theorem heap_alloc_new2 (w : World) (o1 o2 : Obj) : ((w.alloc o1).alloc o2).heap[w.heap.size + 1]? = some o2 := by
  have := heap_alloc_new (w.alloc o1) o2
  simpa using this
theorem heap_alloc_new3 (w : World) (o1 o2 o3 : Obj) : (((w.alloc o1).alloc o2).alloc o3).heap[w.heap.size + 1 + 1]? = some o3 := by
  have := heap_alloc_new ((w.alloc o1).alloc o2) o3
  simpa using this
theorem below_set {B : Nat} {w w' : World} (h : Below B w w') {g j : Nat} {u : Value} (hg : B ≤ g) : Below B w (w'.setCell ⟨g, j, none⟩ u) := by
  by_cases hb : B ≤ w'.heap.size
  · exact h.grown (grown_set w' g j u) hb fun k hk => by injection hk with hk; omega
  · exact ⟨h.os, h.tape, h.output, by simp [World.setCell]; exact h.size, fun k hk => (Below.heap_setCell _ _ _ _ (by simp; omega)).trans (h.block k hk)⟩
theorem own_set {base g j : Nat} {e : TypeId} {v u : Value} {n : Nat} {xs : List Value} {w : World} (h : w.ownsRow base e 1 v n xs) (hlt : g < base) : (w.setCell ⟨g, j, none⟩ u).ownsRow base e 1 v n xs := own_pick h (grown_set w g j u) hlt
theorem row_set {w : World} {g : Nat} {cs : Array Value} {t : TypeId} (h : w.heap[g]? = some (.cells cs t (0, 0))) (j : Nat) (u : Value) : (w.setCell ⟨g, j, none⟩ u).heap[g]? = some (.cells (cs.setIfInBounds j u) t (0, 0)) := heap_setCell_same w g j _ _ _ h
theorem row_other {w : World} {g g' j : Nat} {u : Value} {o : Obj} (h : w.heap[g]? = some o) (hne : g ≠ g') : (w.setCell ⟨g', j, none⟩ u).heap[g]? = some o := (Below.heap_setCell _ _ _ _ (by simpa using hne)).trans h
theorem own_apart_row {w : World} {base g : Nat} {v : Value} {n : Nat} {xs : List Value} {cs : Array Value} {t e : TypeId} (h : w.ownsRow base e 1 v n xs) (hk : w.heap[g]? = some (.cells cs t (0, 0))) (ht : t ≠ e) : v.ownBlock ≠ some g := by
  obtain ⟨_, ⟨rfl, _⟩ | ⟨g', cap, cur, rfl, _, hg, _⟩⟩ := h
  · intro h
    cases h
  · intro h
    have h : some g' = some g := h
    injection h with h
    subst h
    rw [hg] at hk
    injection hk with hk
    injection hk with _ hk
    exact ht hk.symm
theorem own_set_ne {w : World} {base g j : Nat} {v u : Value} {n : Nat} {xs : List Value} {e : TypeId} (h : w.ownsRow base e 1 v n xs) (hne : v.ownBlock ≠ some g) : (w.setCell ⟨g, j, none⟩ u).ownsRow base e 1 v n xs :=
  h.kept (grown_set w g j u) (.inr hne)
set_option maxRecDepth 20000 in
set_option maxHeartbeats 1000000 in
theorem toAddress_any (a : Ad) (A : Option Addr) (n c : Nat) (w : World) (hx : Rd w A n (ints a.quad)) (hn : n ≤ 1048576) :
    Calls Tryd.prog 29 #[adVal a A n c] w fun e w' => ∃ A' c', e = .returned (adVal a A' n c') ∧ w'.ownsRow w.heap.size 3 1 (.slice A' n c') n (ints a.quad) ∧ Below w.heap.size w w' := by
  go_enter Tryd.func29, Tryd.ntmps29
  go_wp2_with fail
  refine calls_gen fun wA hwA => ?_
  have k0 : wA.heap[w.heap.size]? = some (.cells #[.int .i64 a.kind, .slice A n c, .string a.name, .int .i64 a.port] 36 (0, 0)) := by
    rw [hwA, heap_alloc_old _ _ (by simp; omega), heap_alloc_old _ _ (by simp)]
    exact heap_alloc_new w _
  have k1 : wA.heap[w.heap.size + 1]? = some (.cells #[.int .i64 0, .slice none 0 0, .string ⟨#[]⟩, .int .i64 0] 39 (0, 0)) := by
    rw [hwA, heap_alloc_old _ _ (by simp)]
    exact heap_alloc_new2 w _ _
  have k2 : wA.heap[w.heap.size + 1 + 1]? = some (.cells #[.int .i64 a.kind, .slice none 0 0, .string ⟨#[]⟩, .int .i64 0] 39 (0, 0)) := by
    rw [hwA]
    exact heap_alloc_new3 w _ _ _
  have hBA : Below w.heap.size w wA := by rw [hwA]; go_grown
  have hsA : wA.heap.size = w.heap.size + 1 + 1 + 1 := by rw [hwA]; simp
  clear hwA
  refine (toIntS_any _ _ _ _ _ (hx.below hBA) hn).mono ?_
  rintro e w2 ⟨A', c', rfl, ho, hb⟩
  have hB : Below w.heap.size w w2 := bstep hBA hb
  replace k0 := (hb.block _ (by omega)).trans k0
  replace k1 := (hb.block _ (by omega)).trans k1
  replace k2 := (hb.block _ (by omega)).trans k2
  have c01 := cell_of_row w2 _ 1 _ _ _ k0
  have c02 : w2.cell? ⟨w.heap.size, 2, none⟩ = some (.string a.name) := by rw [cell_of_row w2 _ 2 _ _ _ k0]; rfl
  have c03 : w2.cell? ⟨w.heap.size, 3, none⟩ = some (.int .i64 a.port) := by rw [cell_of_row w2 _ 3 _ _ _ k0]; rfl
  have c20 : w2.cell? ⟨w.heap.size + 1 + 1, 0, none⟩ = some (.int .i64 a.kind) := by rw [cell_of_row w2 _ 0 _ _ _ k2]; rfl
  have c21 : w2.cell? ⟨w.heap.size + 1 + 1, 1, none⟩ = some (.slice none 0 0) := by rw [cell_of_row w2 _ 1 _ _ _ k2]; rfl
  have c22 : w2.cell? ⟨w.heap.size + 1 + 1, 2, none⟩ = some (.string ⟨#[]⟩) := by rw [cell_of_row w2 _ 2 _ _ _ k2]; rfl
  have c23 : w2.cell? ⟨w.heap.size + 1 + 1, 3, none⟩ = some (.int .i64 0) := by rw [cell_of_row w2 _ 3 _ _ _ k2]; rfl
  have f21 : w2.frozen? ⟨w.heap.size + 1 + 1, 1, none⟩ = false := frozen_of_row w2 _ 1 _ _ k2
  have f22 : w2.frozen? ⟨w.heap.size + 1 + 1, 2, none⟩ = false := frozen_of_row w2 _ 2 _ _ k2
  have f23 : w2.frozen? ⟨w.heap.size + 1 + 1, 3, none⟩ = false := frozen_of_row w2 _ 3 _ _ k2
  have c10 : w2.cell? ⟨w.heap.size + 1, 0, none⟩ = some (.int .i64 0) := by rw [cell_of_row w2 _ 0 _ _ _ k1]; rfl
  have c11 : w2.cell? ⟨w.heap.size + 1, 1, none⟩ = some (.slice none 0 0) := by rw [cell_of_row w2 _ 1 _ _ _ k1]; rfl
  have c12 : w2.cell? ⟨w.heap.size + 1, 2, none⟩ = some (.string ⟨#[]⟩) := by rw [cell_of_row w2 _ 2 _ _ _ k1]; rfl
  have c13 : w2.cell? ⟨w.heap.size + 1, 3, none⟩ = some (.int .i64 0) := by rw [cell_of_row w2 _ 3 _ _ _ k1]; rfl
  have f10 : w2.frozen? ⟨w.heap.size + 1, 0, none⟩ = false := frozen_of_row w2 _ 0 _ _ k1
  have f11 : w2.frozen? ⟨w.heap.size + 1, 1, none⟩ = false := frozen_of_row w2 _ 1 _ _ k1
  have f12 : w2.frozen? ⟨w.heap.size + 1, 2, none⟩ = false := frozen_of_row w2 _ 2 _ _ k1
  have f13 : w2.frozen? ⟨w.heap.size + 1, 3, none⟩ = false := frozen_of_row w2 _ 3 _ _ k1
  replace k1 := Lib.hid k1
  clear k0 k2 hBA hb hx c01
  go_wp2_with fail
  refine bodyPost_ret (v := adVal a A' n c') (results_cell_row rfl _ _ (w.heap.size + 1) 39 _ (0, 0) _ rfl (row_set (row_set (row_set (row_set (row_other (row_other (row_other k1.out (by omega)) (by omega)) (by omega)) 0 _) 1 _) 2 _) 3 _) Tryd.underlying39 rfl (by kernel_rfl)) rfl
    ⟨A', c', rfl, own_base (own_set (own_set (own_set (own_set (own_set (own_set (own_set ho (by omega)) (by omega)) (by omega)) (by omega)) (by omega)) (by omega)) (by omega)) (by omega),
      below_set (below_set (below_set (below_set (below_set (below_set (below_set hB (by omega)) (by omega)) (by omega)) (by omega)) (by omega)) (by omega)) (by omega)⟩
/-- A box that the call has just made. -/
theorem box_cells {w : World} {g : Nat} {v0 v1 v2 v3 : Value} {t : TypeId} (h : w.heap[g]? = some (.cells #[v0, v1, v2, v3] t (0, 0))) : w.cell? ⟨g, 0, none⟩ = some v0 ∧ w.cell? ⟨g, 1, none⟩ = some v1 ∧ w.cell? ⟨g, 2, none⟩ = some v2 ∧ w.cell? ⟨g, 3, none⟩ = some v3 :=
  ⟨by rw [cell_of_row w g 0 _ _ _ h]; rfl, by rw [cell_of_row w g 1 _ _ _ h]; rfl, by rw [cell_of_row w g 2 _ _ _ h]; rfl, by rw [cell_of_row w g 3 _ _ _ h]; rfl⟩
theorem isEmpty_size (s : ByteArray) : s.toList.isEmpty = decide (s.size = 0) := by
  rw [text_toList, Bool.eq_iff_iff, List.isEmpty_iff_length_eq_zero, lets_length]
  simp
theorem szAddress_any (a : Ad) (A : Option Addr) (n c : Nat) (w : World) (hn : n ≤ 9223372036854775807) (hs : a.name.size ≤ 9223372036854775807) (r : Int) (hr : r = if n + a.name.size ≤ 1048576 then 1048576 - (n : Int) - (a.name.size : Int) else -1) :
    Calls Tryd.prog 27 #[adVal a A n c, .int .i64 1048576] w fun e w' => e = .returned (.int .i64 r) ∧ Below w.heap.size w w' := by
  by_cases h1 : n ≤ 1048576
  · have d1 : decide ((1048576 : Int) - (n : Int) < 0) = false := by simp; omega
    have hsz : Calls Tryd.prog 53 #[.slice A n c, .int .i64 1048576] (w.alloc (.cells #[.int .i64 a.kind, .slice A n c, .string a.name, .int .i64 a.port] 36)) fun e w' => e = .returned (.int .i64 (1048576 - (n : Int))) ∧ w.alloc (.cells #[.int .i64 a.kind, .slice A n c, .string a.name, .int .i64 a.port] 36) = w' := by
      go_enter Tryd.func53, Tryd.ntmps53
      go_wp2_with fail
      go_ret
      exact ⟨rfl, rfl⟩
    by_cases h2 : n + a.name.size ≤ 1048576
    · rw [if_pos h2] at hr
      subst hr
      have d2 : decide ((1048576 : Int) - (n : Int) - (a.name.size : Int) < 0) = false := by simp; omega
      go_enter Tryd.func27, Tryd.ntmps27
      go_wp2_with fail
      refine hsz.mono ?_
      rintro e w' ⟨rfl, rfl⟩
      clear hsz
      go_wp2_with fail
      go_ret
      exact ⟨rfl, by go_grown⟩
    · rw [if_neg h2] at hr
      subst hr
      have d2 : decide ((1048576 : Int) - (n : Int) - (a.name.size : Int) < 0) = true := by simp; omega
      go_enter Tryd.func27, Tryd.ntmps27
      go_wp2_with fail
      refine hsz.mono ?_
      rintro e w' ⟨rfl, rfl⟩
      clear hsz
      go_wp2_with fail
      go_ret
      exact ⟨rfl, by go_grown⟩
  · rw [if_neg (by omega)] at hr
    subst hr
    have d1 : decide ((1048576 : Int) - (n : Int) < 0) = true := by simp; omega
    have hsz : Calls Tryd.prog 53 #[.slice A n c, .int .i64 1048576] (w.alloc (.cells #[.int .i64 a.kind, .slice A n c, .string a.name, .int .i64 a.port] 36)) fun e w' => e = .returned (.int .i64 (-1)) ∧ w.alloc (.cells #[.int .i64 a.kind, .slice A n c, .string a.name, .int .i64 a.port] 36) = w' := by
      go_enter Tryd.func53, Tryd.ntmps53
      go_wp2_with fail
      go_ret
      exact ⟨rfl, rfl⟩
    go_enter Tryd.func27, Tryd.ntmps27
    go_wp2_with fail
    refine hsz.mono ?_
    rintro e w' ⟨rfl, rfl⟩
    clear hsz
    go_wp2_with fail
    go_ret
    exact ⟨rfl, by go_grown⟩
theorem eqAddress_same (a : Ad) (A : Option Addr) (n c : Nat) (B : Option Addr) (m d : Nat) (w : World) (hx : Rd w A n (ints a.quad)) (hy : Rd w B m (ints a.quad)) :
    Calls Tryd.prog 31 #[adVal a A n c, adVal a B m d] w fun e w' => e = .returned (.bool true) ∧ Below w.heap.size w w' := by
  have e1 : (a.kind != a.kind) = false := by simp
  have e2 : (a.name.toList != a.name.toList) = false := by simp
  have e3 : (a.port != a.port) = false := by simp
  go_enter Tryd.func31, Tryd.ntmps31
  go_wp2_with fail
  refine calls_gen fun wA hwA => ?_
  have k0 : wA.heap[w.heap.size]? = some (.cells #[.int .i64 a.kind, .slice A n c, .string a.name, .int .i64 a.port] 39 (0, 0)) := by
    rw [hwA, heap_alloc_old _ _ (by simp)]
    exact heap_alloc_new w _
  have k1 : wA.heap[w.heap.size + 1]? = some (.cells #[.int .i64 a.kind, .slice B m d, .string a.name, .int .i64 a.port] 39 (0, 0)) := by
    rw [hwA]
    exact heap_alloc_new2 w _ _
  have hBA : Below w.heap.size w wA := by rw [hwA]; go_grown
  have hsA : wA.heap.size = w.heap.size + 1 + 1 := by rw [hwA]; simp
  clear hwA
  refine (eqIntS_any _ _ _ _ _ _ _ _ _ (hx.below hBA) (hy.below hBA)).mono ?_
  rintro e w2 ⟨rfl, hb⟩
  rw [decide_eq_true rfl]
  have hB : Below w.heap.size w w2 := bstep hBA hb
  obtain ⟨_, _, c02, c03⟩ := box_cells ((hb.block _ (by omega)).trans k0)
  obtain ⟨_, _, c12, c13⟩ := box_cells ((hb.block _ (by omega)).trans k1)
  clear k0 k1 hBA hb hx hy
  go_wp2_with fail
  go_ret
  exact ⟨rfl, hB⟩
theorem isPort_any (x : Int) (w : World) (r : Bool) (hr : inR x 0 65535 = r) : Calls Tryd.prog 74 #[.int .i64 x] w fun e w' => e = .returned (.bool r) ∧ w = w' := by
  replace hr := Lib.hid hr
  go_enter Tryd.func74, Tryd.ntmps74
  go_wp2_with (go_at_call 72; refine (within_any _ _ _ _ _ hr.out).mono ?_; rintro e w' ⟨rfl, rfl⟩)
  go_ret
  exact ⟨rfl, rfl⟩
theorem adV_quad {a : Ad} (h : a.kind = 1) : adV a = (inR a.port 0 65535 && (qv a.quad && decide (a.name.size = 0))) := by unfold adV; rw [if_pos h]
theorem adV_nm {a : Ad} (h : a.kind = 3) : adV a = (inR a.port 0 65535 && (nameV (lets a.name) && decide (a.quad.length = 0))) := by unfold adV; rw [if_neg (by omega), if_pos h]
theorem adV_no {a : Ad} (h1 : a.kind ≠ 1) (h3 : a.kind ≠ 3) : adV a = false := by unfold adV; rw [if_neg h1, if_neg h3, Bool.and_false]
set_option maxRecDepth 20000 in
set_option maxHeartbeats 2000000 in
theorem addressValid_impl (a : Ad) (A : Option Addr) (n c : Nat) (w : World) (hM : EnvM w) (hx : Rd w A n (ints a.quad)) (hs : a.name.size ≤ 4000000) (r : Bool) (hr : adV a = r) :
    Calls Tryd.prog 57 #[adVal a A n c] w fun e w' => e = .returned (.bool r) ∧ Below w.heap.size w w' := by
  have hm := hx.max
  have hl := hx.ilen
  by_cases h1 : a.kind = 1
  · rw [adV_quad h1] at hr
    have h1' : (a.kind == 1) = true := by simpa using h1
    obtain ⟨t, ht⟩ : ∃ t, inR a.port 0 65535 = t := ⟨_, rfl⟩
    obtain ⟨p, hp⟩ : ∃ p, qv a.quad = p := ⟨_, rfl⟩
    have he := isEmpty_size a.name
    obtain ⟨q, hq⟩ : ∃ q, decide (a.name.size = 0) = q := ⟨_, rfl⟩
    rw [ht, hp, hq] at hr
    rw [hq] at he
    replace ht := Lib.hid ht
    replace hp := Lib.hid hp
    subst hr
    have hx' := hx.alloc (.cells #[.int .i64 a.kind, .slice A n c, .string a.name, .int .i64 a.port] 39)
    clear hq h1 hl
    cases p <;> cases q
    all_goals
      go_enter Tryd.func57, Tryd.ntmps57
      go_wp2_with (first | (go_at_call 26; refine (quadValid_impl _ _ _ _ _ hx' _ hp.out).mono ?_; rintro e w' ⟨rfl, rfl⟩) | (go_at_call 74; refine (isPort_any _ _ _ ht.out).mono ?_; rintro e w' ⟨rfl, rfl⟩))
      go_ret
      exact ⟨by simp, by go_grown⟩
  · have h1' : (a.kind == 1) = false := by simpa using h1
    by_cases h3 : a.kind = 3
    · rw [adV_nm h3] at hr
      have h3' : (a.kind == 3) = true := by simpa using h3
      obtain ⟨t, ht⟩ : ∃ t, inR a.port 0 65535 = t := ⟨_, rfl⟩
      obtain ⟨p, hp⟩ : ∃ p, nameV (lets a.name) = p := ⟨_, rfl⟩
      obtain ⟨q, hq⟩ : ∃ q, decide (a.quad.length = 0) = q := ⟨_, rfl⟩
      rw [ht, hp, hq] at hr
      have hq' : ((n : Int) == 0) = q := by rw [← hq, hl, Bool.eq_iff_iff]; simp
      replace ht := Lib.hid ht
      replace hp := Lib.hid hp
      subst hr
      clear hq hl h1 h3
      go_enter Tryd.func57, Tryd.ntmps57
      go_wp2_with fail
      refine calls_gen fun wA hwA => ?_
      have k0 : wA.heap[w.heap.size]? = some (.cells #[.int .i64 a.kind, .slice A n c, .string a.name, .int .i64 a.port] 39 (0, 0)) := by
        rw [hwA]
        exact heap_alloc_new w _
      have hBA : Below w.heap.size w wA := by rw [hwA]; go_grown
      have hsA : wA.heap.size = w.heap.size + 1 := by rw [hwA]; simp
      clear hwA
      refine (nameValid_impl _ _ (hM.step hBA) hs _ hp.out).mono ?_
      rintro e w2 ⟨rfl, hb⟩
      have hB : Below w.heap.size w w2 := bstep hBA hb
      obtain ⟨_, c01, _, c03⟩ := box_cells ((hb.block _ (by omega)).trans k0)
      clear k0 hBA hb hx hM hp hsA
      cases p <;> cases q
      all_goals
        go_wp2_with (go_at_call 74; refine (isPort_any _ _ _ ht.out).mono ?_; rintro e w' ⟨rfl, rfl⟩)
        go_ret
        exact ⟨by simp, hB⟩
    · have h3' : (a.kind == 3) = false := by simpa using h3
      rw [adV_no h1 h3] at hr
      subst hr
      clear h1 h3
      go_enter Tryd.func57, Tryd.ntmps57
      go_wp2_with fail
      go_ret
      exact ⟨rfl, by go_grown⟩
set_option maxRecDepth 20000 in
set_option maxHeartbeats 2000000 in
theorem addressValid_spec (a : Ad) (A : Option Addr) (n c : Nat) (w : World) (hx : Rd w A n (ints a.quad)) (hs : a.name.size ≤ 4000000) (r : Bool) (hr : adV a = r) :
    Calls Tryd.prog 54 #[adVal a A n c] w fun e w' => e = .returned (.bool r) ∧ Below w.heap.size w w' := by
  have hm := hx.max
  have hl := hx.ilen
  obtain ⟨t, ht⟩ : ∃ t, inR a.port 0 65535 = t := ⟨_, rfl⟩
  have h0 : t = false → r = false := fun e => by
    rw [← hr]
    unfold adV
    rw [ht, e]
    rfl
  cases t with
  | false =>
    have er := h0 rfl
    subst er
    replace ht := Lib.hid ht
    clear h0 hr
    go_enter Tryd.func54, Tryd.ntmps54
    go_wp2_with (go_at_call 68; refine (l6In_any _ _ _ _ _ ht.out).mono ?_; rintro e w' ⟨rfl, rfl⟩)
    go_ret
    exact ⟨rfl, by go_grown⟩
  | true =>
    clear h0
    by_cases h1 : a.kind = 1
    · rw [adV_quad h1, ht] at hr
      have h1' : (a.kind == 1) = true := by simpa using h1
      obtain ⟨p, hp⟩ : ∃ p, qv a.quad = p := ⟨_, rfl⟩
      have he := isEmpty_size a.name
      obtain ⟨q, hq⟩ : ∃ q, decide (a.name.size = 0) = q := ⟨_, rfl⟩
      rw [hp, hq] at hr
      rw [hq] at he
      replace ht := Lib.hid ht
      replace hp := Lib.hid hp
      subst hr
      have hx' := hx.alloc (.cells #[.int .i64 a.kind, .slice A n c, .string a.name, .int .i64 a.port] 39)
      clear hq h1 hl
      cases p <;> cases q
      all_goals
        go_enter Tryd.func54, Tryd.ntmps54
        go_wp2_with (first | (go_at_call 39; refine (quadValid_spec _ _ _ _ _ hx' _ hp.out).mono ?_; rintro e w' ⟨rfl, rfl⟩) | (go_at_call 68; refine (l6In_any _ _ _ _ _ ht.out).mono ?_; rintro e w' ⟨rfl, rfl⟩))
        go_ret
        exact ⟨by simp, by go_grown⟩
    · have h1' : (a.kind == 1) = false := by simpa using h1
      by_cases h3 : a.kind = 3
      · rw [adV_nm h3, ht] at hr
        have h3' : (a.kind == 3) = true := by simpa using h3
        obtain ⟨p, hp⟩ : ∃ p, nameV (lets a.name) = p := ⟨_, rfl⟩
        obtain ⟨q, hq⟩ : ∃ q, decide (a.quad.length = 0) = q := ⟨_, rfl⟩
        rw [hp, hq] at hr
        have hq' : ((n : Int) == 0) = q := by rw [← hq, hl, Bool.eq_iff_iff]; simp
        replace ht := Lib.hid ht
        replace hp := Lib.hid hp
        subst hr
        clear hq hl h1 h3
        go_enter Tryd.func54, Tryd.ntmps54
        go_wp2_with fail
        refine (l6In_any _ _ _ _ _ ht.out).mono ?_
        rintro e w' ⟨rfl, rfl⟩
        go_wp2_with fail
        refine calls_gen fun wA hwA => ?_
        have k0 : wA.heap[w.heap.size]? = some (.cells #[.int .i64 a.kind, .slice A n c, .string a.name, .int .i64 a.port] 39 (0, 0)) := by
          rw [hwA]
          exact heap_alloc_new w _
        have hBA : Below w.heap.size w wA := by rw [hwA]; go_grown
        have hsA : wA.heap.size = w.heap.size + 1 := by rw [hwA]; simp
        clear hwA
        refine (nameValid_spec _ _ hs _ hp.out).mono ?_
        rintro e w2 ⟨rfl, hb⟩
        have hB : Below w.heap.size w w2 := bstep hBA hb
        obtain ⟨_, c01, _, c03⟩ := box_cells ((hb.block _ (by omega)).trans k0)
        clear k0 hBA hb hx hp hsA
        cases p <;> cases q
        all_goals
          go_wp2_with fail
          go_ret
          exact ⟨by simp, hB⟩
      · have h3' : (a.kind == 3) = false := by simpa using h3
        rw [adV_no h1 h3] at hr
        subst hr
        replace ht := Lib.hid ht
        clear h1 h3
        go_enter Tryd.func54, Tryd.ntmps54
        go_wp2_with (go_at_call 68; refine (l6In_any _ _ _ _ _ ht.out).mono ?_; rintro e w' ⟨rfl, rfl⟩)
        go_ret
        exact ⟨rfl, by go_grown⟩
end Go.Proofs.YthgfldabeaepaaaDoor
