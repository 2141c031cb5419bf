/- Requests of the fourth version as values: copying, comparing, counting, marking. No condition. -/
import Derived.Test.YtjlgkepbflcefaaDoorAd
import Derived.Test.YtjlgkepbflcefaaDoorSame
import Derived.Test.YtjlgkepbflcefaaDoorOld
import Derived.Deep.DeepCutAuto
namespace Go.Proofs.YtjlgkepbflcefaaDoor
open Go.RowKit

/-- The value of a request whose bytes lie in '.slice A n c'. -/
abbrev odVal (x : Od) (A : Option Addr) (n c : Nat) : Value := .agg #[.int .i64 x.cmd, .int .i64 x.to.kind, .slice A n c, .string x.to.name, .int .i64 x.to.port, .string x.user]
/-- A box of six cells. -/
theorem six_cells {w : World} {g : Nat} {v0 v1 v2 v3 v4 v5 : Value} {t : TypeId} (h : w.heap[g]? = some (.cells #[v0, v1, v2, v3, v4, v5] t (0, 0))) : w.cell? ⟨g, 0, none⟩ = some v0 ∧ w.cell? ⟨g, 1, none⟩ = some v1 ∧ w.cell? ⟨g, 2, none⟩ = some v2 ∧ w.cell? ⟨g, 3, none⟩ = some v3 ∧ w.cell? ⟨g, 4, none⟩ = some v4 ∧ w.cell? ⟨g, 5, none⟩ = some v5 :=
  ⟨by rw [cell_of_row w g 0 _ _ _ h]; rfl, by rw [cell_of_row w g 1 _ _ _ h]; rfl, by rw [cell_of_row w g 2 _ _ _ h]; rfl, by rw [cell_of_row w g 3 _ _ _ h]; rfl, by rw [cell_of_row w g 4 _ _ _ h]; rfl, by rw [cell_of_row w g 5 _ _ _ h]; rfl⟩
theorem six_frozen {w : World} {g : Nat} {cs : Array Value} {t : TypeId} (h : w.heap[g]? = some (.cells cs t (0, 0))) : w.frozen? ⟨g, 0, none⟩ = false ∧ w.frozen? ⟨g, 1, none⟩ = false ∧ w.frozen? ⟨g, 2, none⟩ = false ∧ w.frozen? ⟨g, 3, none⟩ = false ∧ w.frozen? ⟨g, 4, none⟩ = false ∧ w.frozen? ⟨g, 5, none⟩ = false :=
  ⟨frozen_of_row w g 0 _ _ h, frozen_of_row w g 1 _ _ h, frozen_of_row w g 2 _ _ h, frozen_of_row w g 3 _ _ h, frozen_of_row w g 4 _ _ h, frozen_of_row w g 5 _ _ h⟩
theorem row_set6 {w : World} {g : Nat} {cs : Array Value} {t : TypeId} (h : w.heap[g]? = some (.cells cs t (0, 0))) (v0 v1 v2 v3 v4 v5 : Value) :
    ((((((w.setCell ⟨g, 0, none⟩ v0).setCell ⟨g, 1, none⟩ v1).setCell ⟨g, 2, none⟩ v2).setCell ⟨g, 3, none⟩ v3).setCell ⟨g, 4, none⟩ v4).setCell ⟨g, 5, none⟩ v5).heap[g]? = some (.cells ((((((cs.setIfInBounds 0 v0).setIfInBounds 1 v1).setIfInBounds 2 v2).setIfInBounds 3 v3).setIfInBounds 4 v4).setIfInBounds 5 v5) t (0, 0)) :=
  row_set (row_set (row_set (row_set (row_set (row_set h 0 _) 1 _) 2 _) 3 _) 4 _) 5 _
theorem own_set6 {base g : Nat} {e : TypeId} {v : Value} {n : Nat} {xs : List Value} {w : World} (h : w.ownsRow base e 1 v n xs) (hlt : g < base) (v0 v1 v2 v3 v4 v5 : Value) :
    ((((((w.setCell ⟨g, 0, none⟩ v0).setCell ⟨g, 1, none⟩ v1).setCell ⟨g, 2, none⟩ v2).setCell ⟨g, 3, none⟩ v3).setCell ⟨g, 4, none⟩ v4).setCell ⟨g, 5, none⟩ v5).ownsRow base e 1 v n xs :=
  own_set (own_set (own_set (own_set (own_set (own_set h hlt) hlt) hlt) hlt) hlt) hlt
theorem below_set6 {B g : Nat} {w w' : World} (h : Below B w w') (hg : B ≤ g) (v0 v1 v2 v3 v4 v5 : Value) :
    Below B w ((((((w'.setCell ⟨g, 0, none⟩ v0).setCell ⟨g, 1, none⟩ v1).setCell ⟨g, 2, none⟩ v2).setCell ⟨g, 3, none⟩ v3).setCell ⟨g, 4, none⟩ v4).setCell ⟨g, 5, none⟩ v5) :=
  below_set (below_set (below_set (below_set (below_set (below_set h hg) hg) hg) hg) hg) hg
/-- The world where the walk stands, by a name. -/
theorem code_gen {P : Program} {c : Code} {Q : Exit → Act → World → Prop} {a : Act} {w : World} (h : ∀ wA, wA = w → c.wp P Q a wA) : c.wp P Q a w := h w rfl
set_option maxRecDepth 20000 in
set_option maxHeartbeats 2000000 in
theorem toOld_any (x : Od) (A : Option Addr) (n c : Nat) (w : World) (hx : Rd w A n (ints x.to.quad)) (hn : n ≤ 1048576) :
    Calls Tryd.prog 33 #[odVal x A n c] w fun e w' => ∃ A' c', e = .returned (odVal x A' n c') ∧ w'.ownsRow w.heap.size 3 1 (.slice A' n c') n (ints x.to.quad) ∧ Below w.heap.size w w' := by
  go_enter Tryd.func33, Tryd.ntmps33
  go_wp2_with fail
  refine calls_gen fun wA hwA => ?_
  have k0 : wA.heap[w.heap.size]? = some (.cells #[.int .i64 x.cmd, .int .i64 x.to.kind, .slice A n c, .string x.to.name, .int .i64 x.to.port, .string x.user] 45 (0, 0)) := by
    rw [hwA, heap_alloc_old _ _ (by simp; omega), heap_alloc_old _ _ (by simp)]
    exact heap_alloc_new w _
  have k1 : wA.heap[w.heap.size + 1]? = some (.cells #[.int .i64 0, .int .i64 0, .slice none 0 0, .string ⟨#[]⟩, .int .i64 0, .string ⟨#[]⟩] 39 (0, 0)) := by
    rw [hwA, heap_alloc_old _ _ (by simp)]
    exact heap_alloc_new2 w _ _
  have k2 : wA.heap[w.heap.size + 1 + 1]? = some (.cells #[.int .i64 x.cmd, .int .i64 0, .slice none 0 0, .string ⟨#[]⟩, .int .i64 0, .string ⟨#[]⟩] 39 (0, 0)) := by
    rw [hwA]
    exact heap_alloc_new3 w _ _ _
  have hBA : Below w.heap.size w wA := by rw [hwA]; go_grown
  have hsA : wA.heap.size = w.heap.size + 1 + 1 + 1 := by rw [hwA]; simp
  clear hwA
  refine (toAddress_any x.to A n c _ (hx.below hBA) hn).mono ?_
  rintro e w2 ⟨A', c', rfl, ho, hb⟩
  have hB : Below w.heap.size w w2 := bstep hBA hb
  replace k0 := (hb.block _ (by omega)).trans k0
  replace k1 := (hb.block _ (by omega)).trans k1
  replace k2 := (hb.block _ (by omega)).trans k2
  obtain ⟨_, _, _, _, _, c05⟩ := six_cells k0
  obtain ⟨c20, c21, c22, c23, c24, c25⟩ := six_cells k2
  obtain ⟨f20, f21, f22, f23, f24, f25⟩ := six_frozen k2
  replace k1 := Lib.hid k1
  replace k2 := Lib.hid k2
  clear k0 hBA hb hx
  go_upto_region 5 with fail
  refine code_gen fun w3 hw3 => ?_
  have k23 : w3.heap[w.heap.size + 1 + 1]? = some (.cells #[.int .i64 x.cmd, .int .i64 x.to.kind, .slice A' n c', .string x.to.name, .int .i64 x.to.port, .string x.user] 39 (0, 0)) := by
    rw [hw3]
    exact row_set (row_set (row_set (row_set (row_set k2.out 1 _) 2 _) 3 _) 4 _) 5 _
  have k13 : w3.heap[w.heap.size + 1]? = some (.cells #[.int .i64 0, .int .i64 0, .slice none 0 0, .string ⟨#[]⟩, .int .i64 0, .string ⟨#[]⟩] 39 (0, 0)) := by
    rw [hw3]
    exact row_other (row_other (row_other (row_other (row_other k1.out (by omega)) (by omega)) (by omega)) (by omega)) (by omega)
  have ho3 : w3.ownsRow wA.heap.size 3 1 (.slice A' n c') n (ints x.to.quad) := by
    rw [hw3]
    exact own_set (own_set (own_set (own_set (own_set ho (by omega)) (by omega)) (by omega)) (by omega)) (by omega)
  have hB3 : Below w.heap.size w w3 := by
    rw [hw3]
    exact below_set (below_set (below_set (below_set (below_set hB (by omega)) (by omega)) (by omega)) (by omega)) (by omega)
  clear hw3 k1 k2 ho hB c05 c20 c21 c22 c23 c24 c25 f20 f21 f22 f23 f24 f25
  obtain ⟨c10, c11, c12, c13, c14, c15⟩ := six_cells k13
  obtain ⟨f10, f11, f12, f13, f14, f15⟩ := six_frozen k13
  obtain ⟨c20, c21, c22, c23, c24, c25⟩ := six_cells k23
  replace k13 := Lib.hid k13
  clear k23
  go_wp2_with fail
  refine bodyPost_ret (v := odVal x A' n c') (results_cell_row rfl _ _ (w.heap.size + 1) 39 _ (0, 0) _ rfl (row_set6 k13.out _ _ _ _ _ _) Tryd.underlying39 rfl (by kernel_rfl)) rfl
    ⟨A', c', rfl, own_base (own_set6 ho3 (by omega) _ _ _ _ _ _) (by omega), below_set6 hB3 (by omega) _ _ _ _ _ _⟩
theorem szOld_any (x : Od) (A : Option Addr) (n c : Nat) (w : World) (hn : n ≤ 9223372036854775807) (hs : x.to.name.size ≤ 9223372036854775807) (hu : x.user.size ≤ 9223372036854775807) :
    Calls Tryd.prog 32 #[odVal x A n c, .int .i64 1048576] w fun e w' => (∃ r : Int, e = .returned (.int .i64 r) ∧ ((r = -1) ∨ (0 ≤ r ∧ n + x.to.name.size + x.user.size ≤ 1048576))) ∧ Below w.heap.size w w' := by
  by_cases h1 : n + x.to.name.size ≤ 1048576
  · obtain ⟨r, hr⟩ : ∃ r : Int, r = if n + x.to.name.size ≤ 1048576 then 1048576 - (n : Int) - (x.to.name.size : Int) else -1 := ⟨_, rfl⟩
    have hr' := hr
    rw [if_pos h1] at hr'
    have g1 : decide (r < 0) = false := by simp; omega
    have k0 := heap_alloc_new w (.cells #[.int .i64 x.cmd, .int .i64 x.to.kind, .slice A n c, .string x.to.name, .int .i64 x.to.port, .string x.user] 45)
    replace hr := Lib.hid hr
    have hr0 : 0 ≤ r ∧ r ≤ 1048576 := by omega
    by_cases h2 : n + x.to.name.size + x.user.size ≤ 1048576
    · have g2 : decide (r - (x.user.size : Int) < 0) = false := by simp; omega
      have hfin : 0 ≤ r - (x.user.size : Int) := by omega
      clear hr'
      go_enter Tryd.func32, Tryd.ntmps32
      go_wp2_with fail
      refine (szAddress_any x.to A n c _ hn hs _ hr.out).mono ?_
      rintro e w2 ⟨rfl, hb⟩
      have hB : Below w.heap.size w w2 := bstep ((Below.refl _ _).alloc (Nat.le_refl _) _) hb
      obtain ⟨_, _, _, _, _, c5⟩ := six_cells ((hb.block _ (by simp)).trans k0)
      clear hb k0
      go_wp2_with fail
      go_ret
      exact ⟨⟨_, rfl, .inr ⟨hfin, h2⟩⟩, hB⟩
    · have g2 : decide (r - (x.user.size : Int) < 0) = true := by simp; omega
      clear hr'
      go_enter Tryd.func32, Tryd.ntmps32
      go_wp2_with fail
      refine (szAddress_any x.to A n c _ hn hs _ hr.out).mono ?_
      rintro e w2 ⟨rfl, hb⟩
      have hB : Below w.heap.size w w2 := bstep ((Below.refl _ _).alloc (Nat.le_refl _) _) hb
      obtain ⟨_, _, _, _, _, c5⟩ := six_cells ((hb.block _ (by simp)).trans k0)
      clear hb k0
      go_wp2_with fail
      go_ret
      exact ⟨⟨_, rfl, .inl rfl⟩, hB⟩
  · go_enter Tryd.func32, Tryd.ntmps32
    go_wp2_with fail
    refine (szAddress_any x.to A n c _ hn hs _ rfl).mono ?_
    rintro e w2 ⟨rfl, hb⟩
    rw [if_neg h1]
    have hB : Below w.heap.size w w2 := bstep ((Below.refl _ _).alloc (Nat.le_refl _) _) hb
    clear hb
    go_wp2_with fail
    go_ret
    exact ⟨⟨_, rfl, .inl rfl⟩, hB⟩
set_option maxRecDepth 20000 in
set_option maxHeartbeats 1000000 in
theorem eqOld_same (x : Od) (A : Option Addr) (n c : Nat) (B : Option Addr) (m d : Nat) (w : World) (hx : Rd w A n (ints x.to.quad)) (hy : Rd w B m (ints x.to.quad)) :
    Calls Tryd.prog 34 #[odVal x A n c, odVal x B m d] w fun e w' => e = .returned (.bool true) ∧ Below w.heap.size w w' := by
  have e1 : (x.cmd != x.cmd) = false := by simp
  have e2 : (x.user.toList != x.user.toList) = false := by simp
  go_enter Tryd.func34, Tryd.ntmps34
  go_wp2_with fail
  refine calls_gen fun wA hwA => ?_
  have k0 : wA.heap[w.heap.size]? = some (.cells #[.int .i64 x.cmd, .int .i64 x.to.kind, .slice A n c, .string x.to.name, .int .i64 x.to.port, .string x.user] 39 (0, 0)) := by
    rw [hwA, heap_alloc_old _ _ (by simp)]
    exact heap_alloc_new w _
  have k1 : wA.heap[w.heap.size + 1]? = some (.cells #[.int .i64 x.cmd, .int .i64 x.to.kind, .slice B m d, .string x.to.name, .int .i64 x.to.port, .string x.user] 39 (0, 0)) := by
    rw [hwA]
    exact heap_alloc_new2 w _ _
  have hBA : Below w.heap.size w wA := by rw [hwA]; go_grown
  have hsA : wA.heap.size = w.heap.size + 1 + 1 := by rw [hwA]; simp
  clear hwA
  refine (eqAddress_same x.to _ _ _ _ _ _ _ (hx.below hBA) (hy.below hBA)).mono ?_
  rintro e w2 ⟨rfl, hb⟩
  have hB : Below w.heap.size w w2 := bstep hBA hb
  obtain ⟨_, _, _, _, _, c05⟩ := six_cells ((hb.block _ (by omega)).trans k0)
  obtain ⟨_, _, _, _, _, c15⟩ := six_cells ((hb.block _ (by omega)).trans k1)
  clear k0 k1 hBA hb hx hy
  go_wp2_with fail
  go_ret
  exact ⟨rfl, hB⟩
set_option maxRecDepth 20000 in
set_option maxHeartbeats 1000000 in
theorem sameOld_same (x : Od) (A : Option Addr) (n c : Nat) (B : Option Addr) (m d : Nat) (w : World) (hx : Rd w A n (ints x.to.quad)) (hy : Rd w B m (ints x.to.quad)) :
    Calls Tryd.prog 40 #[odVal x A n c, odVal x B m d] w fun e w' => e = .returned (.bool true) ∧ Below w.heap.size w w' := by
  have e1 : (x.cmd == x.cmd) = true := by simp
  have e2 : (x.user.toList == x.user.toList) = true := by simp
  go_enter Tryd.func40, Tryd.ntmps40
  go_wp2_with fail
  refine calls_gen fun wA hwA => ?_
  have hBA : Below w.heap.size w wA := by rw [hwA]; go_grown
  clear hwA
  refine (sameAddress_same x.to _ _ _ _ _ _ _ (hx.below hBA) (hy.below hBA)).mono ?_
  rintro e w2 ⟨rfl, hb⟩
  have hB : Below w.heap.size w w2 := bstep hBA hb
  clear hBA hb hx hy
  go_wp2_with fail
  go_ret
  exact ⟨rfl, hB⟩
theorem own_two {w1 w2 w' : World} {B1 B2 : Nat} {e1 e2 : TypeId} {v1 v2 : Value} {n1 n2 : Nat} {xs1 xs2 : List Value} (h1 : w1.ownsRow B1 e1 1 v1 n1 xs1) (hB : w1.heap.size ≤ B2) (h2 : w2.ownsRow B2 e2 1 v2 n2 xs2) (hg : w2.grownBy w' v1.ownBlock) : w'.ownsRow B2 e2 1 v2 n2 xs2 := by
  refine h2.kept hg ?_
  cases ho : v2.ownBlock with
  | none => exact .inl rfl
  | some k =>
    refine .inr fun e => ?_
    have := (h2.lt k ho).1
    have := (h1.lt k e.symm).2
    omega
theorem EnvM.grown {w w' : World} {row : Option Nat} (h : EnvM w) (hg : w.grownBy w' row) (hr : ∀ k, row = some k → 0 < k) : EnvM w' := by
  obtain ⟨m, hm⟩ := h
  exact ⟨m, hg.cell hm fun e => by have := hr _ e.symm; simp at this⟩
theorem markAddress_any (B : Nat) (a : Ad) (A : Option Addr) (n c : Nat) (m : Int) (w : World) (ho : w.ownsRow B 3 1 (.slice A n c) n (ints a.quad)) (hm : 0 ≤ m ∧ m + n ≤ 9223372036854775807) :
    Calls Tryd.prog 21 #[adVal a A n c, .int .i64 m] w fun e w' => e = .returned (.int .i64 (m + n)) ∧ w'.ownsRow B 3 1 (.slice A n c) n (ints (marks m n)) ∧ w.grownBy w' (Value.ownBlock (.slice A n c)) := by
  go_enter Tryd.func21, Tryd.ntmps21
  go_wp2_with fail
  refine (markIntS_any B A n c a.quad m _ (ho.alloc _) hm).mono ?_
  rintro e w2 ⟨rfl, ho2, hg2⟩
  go_wp2_with fail
  go_ret
  exact ⟨rfl, ho2, grown_trans (World.grownBy_alloc w _ _) hg2⟩
theorem heldAddress_any (a : Ad) (A : Option Addr) (n c : Nat) (m : Int) (w : World) (hx : Rd w A n (ints (marks m n))) (hm : 0 ≤ m ∧ m + n ≤ 9223372036854775807) :
    Calls Tryd.prog 22 #[adVal a A n c, .int .i64 m] w fun e w' => e = .returned (.int .i64 (m + n)) ∧ Below w.heap.size w w' := by
  have g : decide (m + (n : Int) < 0) = false := by simp; omega
  go_enter Tryd.func22, Tryd.ntmps22
  go_wp2_with fail
  refine (heldIntS_any A n c m _ (hx.alloc _) hm).mono ?_
  rintro e w2 ⟨rfl, hb⟩
  have hB : Below w.heap.size w w2 := bstep ((Below.refl _ _).alloc (Nat.le_refl _) _) hb
  clear hb hx
  go_wp2_with fail
  go_ret
  exact ⟨rfl, hB⟩
theorem markOld_any (B : Nat) (x : Od) (A : Option Addr) (n c : Nat) (m : Int) (w : World) (ho : w.ownsRow B 3 1 (.slice A n c) n (ints x.to.quad)) (hm : 0 ≤ m ∧ m + n ≤ 9223372036854775807) :
    Calls Tryd.prog 35 #[odVal x A n c, .int .i64 m] w fun e w' => e = .returned (.int .i64 (m + n)) ∧ w'.ownsRow B 3 1 (.slice A n c) n (ints (marks m n)) ∧ w.grownBy w' (Value.ownBlock (.slice A n c)) := by
  go_enter Tryd.func35, Tryd.ntmps35
  go_wp2_with fail
  refine (markAddress_any B x.to A n c m _ (ho.alloc _) hm).mono ?_
  rintro e w2 ⟨rfl, ho2, hg2⟩
  go_wp2_with fail
  go_ret
  exact ⟨rfl, ho2, grown_trans (World.grownBy_alloc w _ _) hg2⟩
theorem heldOld_any (x : Od) (A : Option Addr) (n c : Nat) (m : Int) (w : World) (hx : Rd w A n (ints (marks m n))) (hm : 0 ≤ m ∧ m + n ≤ 9223372036854775807) :
    Calls Tryd.prog 39 #[odVal x A n c, .int .i64 m] w fun e w' => e = .returned (.int .i64 (m + n)) ∧ Below w.heap.size w w' := by
  have g : decide (m + (n : Int) < 0) = false := by simp; omega
  go_enter Tryd.func39, Tryd.ntmps39
  go_wp2_with fail
  refine (heldAddress_any x.to A n c m _ (hx.alloc _) hm).mono ?_
  rintro e w2 ⟨rfl, hb⟩
  have hB : Below w.heap.size w w2 := bstep ((Below.refl _ _).alloc (Nat.le_refl _) _) hb
  clear hb hx
  go_wp2_with fail
  go_ret
  exact ⟨rfl, hB⟩
end Go.Proofs.YtjlgkepbflcefaaDoor
