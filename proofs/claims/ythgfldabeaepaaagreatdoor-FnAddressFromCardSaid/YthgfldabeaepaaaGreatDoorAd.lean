/- Addresses as values: copying, comparing, counting. No condition. -/
import Derived.Test.YthgfldabeaepaaaGreatDoorEnv
import Derived.Test.YthgfldabeaepaaaGreatDoorAddr
import Derived.Test.YthgfldabeaepaaaGreatDoorBytes
import Derived.Test.YthgfldabeaepaaaGreatDoorName
namespace Go.Proofs.YthgfldabeaepaaaGreatDoor
open Go.RowKit

/-- The value of an address whose bytes lie in '.slice A n c'. -/
abbrev adVal (a : Ad) (A : Option Addr) (n c : Nat) : Value := .agg #[.int .i64 a.kind, .slice A n c, .string a.name, .int .i64 a.port]
/-- Block b holds an address. -/
def AdAt (w : World) (b : Nat) (a : Ad) (A : Option Addr) (n c : Nat) : Prop := w.cell? ⟨b, 0, none⟩ = some (.int .i64 a.kind) ∧ w.cell? ⟨b, 1, none⟩ = some (.slice A n c) ∧ w.cell? ⟨b, 2, none⟩ = some (.string a.name) ∧ w.cell? ⟨b, 3, none⟩ = some (.int .i64 a.port)
theorem calls_gen {P : Program} {f : FuncId} {args : Array Value} {w : World} {Q : Ending → World → Prop} (h : ∀ wA, wA = w → Calls P f args wA Q) : Calls P f args w Q := h w rfl
theorem heap_alloc_new2 (w : World) (o1 o2 : Obj) : ((w.alloc o1).alloc o2).heap[w.heap.size + 1]? = some o2 := by
  have := heap_alloc_new (w.alloc o1) o2
  simpa using this
theorem heap_alloc_new3 (w : World) (o1 o2 o3 : Obj) : (((w.alloc o1).alloc o2).alloc o3).heap[w.heap.size + 1 + 1]? = some o3 := by
  have := heap_alloc_new ((w.alloc o1).alloc o2) o3
  simpa using this
theorem below_set {B : Nat} {w w' : World} (h : Below B w w') {g j : Nat} {u : Value} (hg : B ≤ g) : Below B w (w'.setCell ⟨g, j, none⟩ u) := by
  by_cases hb : B ≤ w'.heap.size
  · exact h.grown (grown_set w' g j u) hb fun k hk => by injection hk with hk; omega
  · exact ⟨h.os, h.tape, h.output, by simp [World.setCell]; exact h.size, fun k hk => (Below.heap_setCell _ _ _ _ (by simp; omega)).trans (h.block k hk)⟩
theorem own_set {base g j : Nat} {e : TypeId} {v u : Value} {n : Nat} {xs : List Value} {w : World} (h : w.ownsRow base e 1 v n xs) (hlt : g < base) : (w.setCell ⟨g, j, none⟩ u).ownsRow base e 1 v n xs := own_pick h (grown_set w g j u) hlt
theorem row_set {w : World} {g : Nat} {cs : Array Value} {t : TypeId} (h : w.heap[g]? = some (.cells cs t (0, 0))) (j : Nat) (u : Value) : (w.setCell ⟨g, j, none⟩ u).heap[g]? = some (.cells (cs.setIfInBounds j u) t (0, 0)) := heap_setCell_same w g j _ _ _ h
theorem row_other {w : World} {g g' j : Nat} {u : Value} {o : Obj} (h : w.heap[g]? = some o) (hne : g ≠ g') : (w.setCell ⟨g', j, none⟩ u).heap[g]? = some o := (Below.heap_setCell _ _ _ _ (by simpa using hne)).trans h
theorem own_apart_row {w : World} {base g : Nat} {v : Value} {n : Nat} {xs : List Value} {cs : Array Value} {t e : TypeId} (h : w.ownsRow base e 1 v n xs) (hk : w.heap[g]? = some (.cells cs t (0, 0))) (ht : t ≠ e) : v.ownBlock ≠ some g := by
  obtain ⟨_, ⟨rfl, _⟩ | ⟨g', cap, cur, rfl, _, hg, _⟩⟩ := h
  · intro h
    cases h
  · intro h
    have h : some g' = some g := h
    injection h with h
    subst h
    rw [hg] at hk
    injection hk with hk
    injection hk with _ hk
    exact ht hk.symm
theorem own_set_ne {w : World} {base g j : Nat} {v u : Value} {n : Nat} {xs : List Value} {e : TypeId} (h : w.ownsRow base e 1 v n xs) (hne : v.ownBlock ≠ some g) : (w.setCell ⟨g, j, none⟩ u).ownsRow base e 1 v n xs :=
  h.kept (grown_set w g j u) (.inr hne)
/-- A box that the call has just made. -/
theorem box_cells {w : World} {g : Nat} {v0 v1 v2 v3 : Value} {t : TypeId} (h : w.heap[g]? = some (.cells #[v0, v1, v2, v3] t (0, 0))) : w.cell? ⟨g, 0, none⟩ = some v0 ∧ w.cell? ⟨g, 1, none⟩ = some v1 ∧ w.cell? ⟨g, 2, none⟩ = some v2 ∧ w.cell? ⟨g, 3, none⟩ = some v3 :=
  ⟨by rw [cell_of_row w g 0 _ _ _ h]; rfl, by rw [cell_of_row w g 1 _ _ _ h]; rfl, by rw [cell_of_row w g 2 _ _ _ h]; rfl, by rw [cell_of_row w g 3 _ _ _ h]; rfl⟩
theorem isEmpty_size (s : ByteArray) : s.toList.isEmpty = decide (s.size = 0) := by
  rw [text_toList, Bool.eq_iff_iff, List.isEmpty_iff_length_eq_zero, lets_length]
  simp
theorem isPort_any (x : Int) (w : World) (r : Bool) (hr : inR x 0 65535 = r) : Calls Tryz.prog 24 #[.int .i64 x] w fun e w' => e = .returned (.bool r) ∧ w = w' := by
  replace hr := Lib.hid hr
  go_enter Tryz.func24, Tryz.ntmps24
  go_wp2_with (go_at_call 41; refine (within_any _ _ _ _ _ hr.out).mono ?_; rintro e w' ⟨rfl, rfl⟩)
  go_ret
  exact ⟨rfl, rfl⟩
theorem adV_quad {a : Ad} (h : a.kind = 1) : adV a = (inR a.port 0 65535 && (qv a.quad && decide (a.name.size = 0))) := by unfold adV; rw [if_pos h]
theorem adV_nm {a : Ad} (h : a.kind = 3) : adV a = (inR a.port 0 65535 && (nameV (lets a.name) && decide (a.quad.length = 0))) := by unfold adV; rw [if_neg (by omega), if_pos h]
theorem adV_no {a : Ad} (h1 : a.kind ≠ 1) (h3 : a.kind ≠ 3) : adV a = false := by unfold adV; rw [if_neg h1, if_neg h3, Bool.and_false]
set_option maxRecDepth 20000 in
set_option maxHeartbeats 2000000 in
theorem addressValid_impl (a : Ad) (A : Option Addr) (n c : Nat) (w : World) (hM : EnvM w) (hx : Rd w A n (ints a.quad)) (hs : a.name.size ≤ 4000000) (r : Bool) (hr : adV a = r) :
    Calls Tryz.prog 8 #[adVal a A n c] w fun e w' => e = .returned (.bool r) ∧ Below w.heap.size w w' := by
  have hm := hx.max
  have hl := hx.ilen
  by_cases h1 : a.kind = 1
  · rw [adV_quad h1] at hr
    have h1' : (a.kind == 1) = true := by simpa using h1
    obtain ⟨t, ht⟩ : ∃ t, inR a.port 0 65535 = t := ⟨_, rfl⟩
    obtain ⟨p, hp⟩ : ∃ p, qv a.quad = p := ⟨_, rfl⟩
    have he := isEmpty_size a.name
    obtain ⟨q, hq⟩ : ∃ q, decide (a.name.size = 0) = q := ⟨_, rfl⟩
    rw [ht, hp, hq] at hr
    rw [hq] at he
    replace ht := Lib.hid ht
    replace hp := Lib.hid hp
    subst hr
    have hx' := hx.alloc (.cells #[.int .i64 a.kind, .slice A n c, .string a.name, .int .i64 a.port] 26)
    clear hq h1 hl
    cases p <;> cases q
    all_goals
      go_enter Tryz.func8, Tryz.ntmps8
      go_wp2_with (first | (go_at_call 23; refine (quadValid_impl _ _ _ _ _ hx' _ hp.out).mono ?_; rintro e w' ⟨rfl, rfl⟩) | (go_at_call 24; refine (isPort_any _ _ _ ht.out).mono ?_; rintro e w' ⟨rfl, rfl⟩))
      go_ret
      exact ⟨by simp, by go_grown⟩
  · have h1' : (a.kind == 1) = false := by simpa using h1
    by_cases h3 : a.kind = 3
    · rw [adV_nm h3] at hr
      have h3' : (a.kind == 3) = true := by simpa using h3
      obtain ⟨t, ht⟩ : ∃ t, inR a.port 0 65535 = t := ⟨_, rfl⟩
      obtain ⟨p, hp⟩ : ∃ p, nameV (lets a.name) = p := ⟨_, rfl⟩
      obtain ⟨q, hq⟩ : ∃ q, decide (a.quad.length = 0) = q := ⟨_, rfl⟩
      rw [ht, hp, hq] at hr
      have hq' : ((n : Int) == 0) = q := by rw [← hq, hl, Bool.eq_iff_iff]; simp
      replace ht := Lib.hid ht
      replace hp := Lib.hid hp
      subst hr
      clear hq hl h1 h3
      go_enter Tryz.func8, Tryz.ntmps8
      go_wp2_with fail
      refine calls_gen fun wA hwA => ?_
      have k0 : wA.heap[w.heap.size]? = some (.cells #[.int .i64 a.kind, .slice A n c, .string a.name, .int .i64 a.port] 26 (0, 0)) := by
        rw [hwA]
        exact heap_alloc_new w _
      have hBA : Below w.heap.size w wA := by rw [hwA]; go_grown
      have hsA : wA.heap.size = w.heap.size + 1 := by rw [hwA]; simp
      clear hwA
      refine (nameValid_impl _ _ (hM.step hBA) hs _ hp.out).mono ?_
      rintro e w2 ⟨rfl, hb⟩
      have hB : Below w.heap.size w w2 := bstep hBA hb
      obtain ⟨_, c01, _, c03⟩ := box_cells ((hb.block _ (by omega)).trans k0)
      clear k0 hBA hb hx hM hp hsA
      cases p <;> cases q
      all_goals
        go_wp2_with (go_at_call 24; refine (isPort_any _ _ _ ht.out).mono ?_; rintro e w' ⟨rfl, rfl⟩)
        go_ret
        exact ⟨by simp, hB⟩
    · have h3' : (a.kind == 3) = false := by simpa using h3
      rw [adV_no h1 h3] at hr
      subst hr
      clear h1 h3
      go_enter Tryz.func8, Tryz.ntmps8
      go_wp2_with fail
      go_ret
      exact ⟨rfl, by go_grown⟩
set_option maxRecDepth 20000 in
set_option maxHeartbeats 2000000 in
theorem addressValid_spec (a : Ad) (A : Option Addr) (n c : Nat) (w : World) (hx : Rd w A n (ints a.quad)) (hs : a.name.size ≤ 4000000) (r : Bool) (hr : adV a = r) :
    Calls Tryz.prog 21 #[adVal a A n c] w fun e w' => e = .returned (.bool r) ∧ Below w.heap.size w w' := by
  have hm := hx.max
  have hl := hx.ilen
  obtain ⟨t, ht⟩ : ∃ t, inR a.port 0 65535 = t := ⟨_, rfl⟩
  have h0 : t = false → r = false := fun e => by
    rw [← hr]
    unfold adV
    rw [ht, e]
    rfl
  cases t with
  | false =>
    have er := h0 rfl
    subst er
    replace ht := Lib.hid ht
    clear h0 hr
    go_enter Tryz.func21, Tryz.ntmps21
    go_wp2_with (go_at_call 37; refine (l6In_any _ _ _ _ _ ht.out).mono ?_; rintro e w' ⟨rfl, rfl⟩)
    go_ret
    exact ⟨rfl, by go_grown⟩
  | true =>
    clear h0
    by_cases h1 : a.kind = 1
    · rw [adV_quad h1, ht] at hr
      have h1' : (a.kind == 1) = true := by simpa using h1
      obtain ⟨p, hp⟩ : ∃ p, qv a.quad = p := ⟨_, rfl⟩
      have he := isEmpty_size a.name
      obtain ⟨q, hq⟩ : ∃ q, decide (a.name.size = 0) = q := ⟨_, rfl⟩
      rw [hp, hq] at hr
      rw [hq] at he
      replace ht := Lib.hid ht
      replace hp := Lib.hid hp
      subst hr
      have hx' := hx.alloc (.cells #[.int .i64 a.kind, .slice A n c, .string a.name, .int .i64 a.port] 26)
      clear hq h1 hl
      cases p <;> cases q
      all_goals
        go_enter Tryz.func21, Tryz.ntmps21
        go_wp2_with (first | (go_at_call 38; refine (quadValid_spec _ _ _ _ _ hx' _ hp.out).mono ?_; rintro e w' ⟨rfl, rfl⟩) | (go_at_call 37; refine (l6In_any _ _ _ _ _ ht.out).mono ?_; rintro e w' ⟨rfl, rfl⟩))
        go_ret
        exact ⟨by simp, by go_grown⟩
    · have h1' : (a.kind == 1) = false := by simpa using h1
      by_cases h3 : a.kind = 3
      · rw [adV_nm h3, ht] at hr
        have h3' : (a.kind == 3) = true := by simpa using h3
        obtain ⟨p, hp⟩ : ∃ p, nameV (lets a.name) = p := ⟨_, rfl⟩
        obtain ⟨q, hq⟩ : ∃ q, decide (a.quad.length = 0) = q := ⟨_, rfl⟩
        rw [hp, hq] at hr
        have hq' : ((n : Int) == 0) = q := by rw [← hq, hl, Bool.eq_iff_iff]; simp
        replace ht := Lib.hid ht
        replace hp := Lib.hid hp
        subst hr
        clear hq hl h1 h3
        go_enter Tryz.func21, Tryz.ntmps21
        go_wp2_with fail
        refine (l6In_any _ _ _ _ _ ht.out).mono ?_
        rintro e w' ⟨rfl, rfl⟩
        go_wp2_with fail
        refine calls_gen fun wA hwA => ?_
        have k0 : wA.heap[w.heap.size]? = some (.cells #[.int .i64 a.kind, .slice A n c, .string a.name, .int .i64 a.port] 26 (0, 0)) := by
          rw [hwA]
          exact heap_alloc_new w _
        have hBA : Below w.heap.size w wA := by rw [hwA]; go_grown
        have hsA : wA.heap.size = w.heap.size + 1 := by rw [hwA]; simp
        clear hwA
        refine (nameValid_spec _ _ hs _ hp.out).mono ?_
        rintro e w2 ⟨rfl, hb⟩
        have hB : Below w.heap.size w w2 := bstep hBA hb
        obtain ⟨_, c01, _, c03⟩ := box_cells ((hb.block _ (by omega)).trans k0)
        clear k0 hBA hb hx hp hsA
        cases p <;> cases q
        all_goals
          go_wp2_with fail
          go_ret
          exact ⟨by simp, hB⟩
      · have h3' : (a.kind == 3) = false := by simpa using h3
        rw [adV_no h1 h3] at hr
        subst hr
        replace ht := Lib.hid ht
        clear h1 h3
        go_enter Tryz.func21, Tryz.ntmps21
        go_wp2_with (go_at_call 37; refine (l6In_any _ _ _ _ _ ht.out).mono ?_; rintro e w' ⟨rfl, rfl⟩)
        go_ret
        exact ⟨rfl, by go_grown⟩
end Go.Proofs.YthgfldabeaepaaaGreatDoor
