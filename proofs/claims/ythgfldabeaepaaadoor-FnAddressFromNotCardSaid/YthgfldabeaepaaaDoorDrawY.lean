/- The functions that draw addresses and their texts. No condition. -/
import Derived.Test.YthgfldabeaepaaaDoorDrawA
import Derived.Test.YthgfldabeaepaaaDoorAdT
namespace Go.Proofs.YthgfldabeaepaaaDoor
open Go.RowKit
def DrawnAdT (w : World) (e : Ending) (w' : World) : Prop := ∃ (a : Ad) (A : Option Addr) (n c : Nat), e = .returned (adVal a A n c) ∧ n ≤ 1000 ∧ a.name.size ≤ 1000 ∧ w'.ownsRow w.heap.size 3 1 (.slice A n c) n (ints a.quad) ∧ Below w.heap.size w w'
set_option maxRecDepth 20000 in
set_option maxHeartbeats 1000000 in
theorem drawAddressText_any (A : Option Addr) (n c : Nat) (zs : List Int) (w : World) (hx : Rd w A n (zs.map (Value.int .u8))) (hc : n ≤ c) (hv : ∀ z ∈ zs, 0 ≤ z ∧ z ≤ 255) :
    Calls Tryd.prog 32 #[.slice A n c] w (DrawnAdT w) := by
  go_enter Tryd.func32, Tryd.ntmps32
  go_wp2_with fail
  refine calls_gen fun wA hwA => ?_
  have k0 : wA.heap[w.heap.size]? = some (.cells #[.int .i64 0, .slice none 0 0, .string ⟨#[]⟩, .int .i64 0] 39 (0, 0)) := by
    rw [hwA]
    exact heap_alloc_new w _
  have hBA : Below w.heap.size w wA := by rw [hwA]; go_grown
  have hsA : wA.heap.size = w.heap.size + 1 := by rw [hwA]; simp
  clear hwA
  refine (l6Open_any A n c zs _ (hx.below hBA) hc hv).mono ?_
  rintro e w1 ⟨g, rfl, hge, hr1, hb1⟩
  have hB1 : Below w.heap.size w w1 := bstep hBA hb1
  replace k0 := (hb1.block _ (by omega)).trans k0
  have hs1 := hb1.size
  clear hb1 hBA
  go_wp2_with fail
  refine (l91Address_any g 0 _ hr1 (by omega)).mono ?_
  rintro e w2 ⟨a, A2, n2, c2, rfl, hn2, hsz, ho, hr2, hg2⟩
  have hg2w : g < w1.heap.size := hr1.lt
  have hB2 : Below w.heap.size w w2 := bgrow hB1 hg2 fun k hk => by injection hk with hk; omega
  replace k0 := grown_row hg2 (by omega) (by omega) k0
  obtain ⟨c0, c1, c2', c3⟩ := box_cells k0
  obtain ⟨f0, f1, f2, f3⟩ := box_frozen k0
  replace k0 := Lib.hid k0
  clear hg2 hr1 hB1
  go_wp2_with fail
  refine bodyPost_ret (v := adVal a A2 n2 c2) (results_cell_row rfl _ _ w.heap.size 39 _ (0, 0) _ rfl (row_set (row_set (row_set (row_set k0.out 0 _) 1 _) 2 _) 3 _) Tryd.underlying39 rfl (by kernel_rfl)) rfl
    ⟨a, A2, n2, c2, rfl, hn2, hsz, own_base (own_set (own_set (own_set (own_set ho (by omega)) (by omega)) (by omega)) (by omega)) (by omega), below_set (below_set (below_set (below_set hB2 (Nat.le_refl _)) (Nat.le_refl _)) (Nat.le_refl _)) (Nat.le_refl _)⟩
set_option maxRecDepth 20000 in
set_option maxHeartbeats 2000000 in
theorem drawAddressFrom_any (A : Option Addr) (n c : Nat) (zs : List Int) (w : World) (hx : Rd w A n (zs.map (Value.int .u8))) (hc : n ≤ c) (hv : ∀ z ∈ zs, 0 ≤ z ∧ z ≤ 255) :
    Calls Tryd.prog 35 #[.slice A n c] w fun e w' => (∃ s : ByteArray, e = .returned (.string s) ∧ s.size ≤ 1000) ∧ Below w.heap.size w w' := by
  go_enter Tryd.func35, Tryd.ntmps35
  go_wp2_with fail
  refine (l6Open_any _ _ _ _ _ hx hc hv).mono ?_
  rintro e w1 ⟨g, rfl, hgB, hr1, hB1⟩
  have hlt := hr1.lt
  go_wp2_with fail
  refine (l91Address_any g 0 _ hr1 (by omega)).mono ?_
  rintro e w2 ⟨a, A, n, c, rfl, hn, hsn, ho, hr2, hg2⟩
  have hB2 := bgrow hB1 hg2 fun k hk => by injection hk with hk; omega
  have hrq := Rd.own ho
  clear ho hg2 hB1 hr1
  go_wp2_with fail
  refine (addressText_spec a _ _ _ _ hrq (by omega)).mono ?_
  rintro e w3 ⟨rfl, hb3⟩
  have hB3 := bstep hB2 hb3
  have hr3 := hr2.below hb3
  clear hr2 hb3 hB2 hrq
  have hsz : (txt (adS a)).size ≤ 26 := by rw [txt_size]; exact adS_short a
  generalize txt (adS a) = s at hsz ⊢
  by_cases hs0 : s.size = 0
  · have he : s = ⟨#[]⟩ := empty_of_size hs0
    subst he
    go_wp2_with fail
    refine (of_new g _ _ _ _ _ (by exact hr3) (by omega) (by omega) (by rfl) (by decide)).mono ?_
    rintro e w5 ⟨s, rfl, hs, _, hg5⟩
    go_wp2_with fail
    go_ret
    exact ⟨⟨s, rfl, hs⟩, bgrow hB3 hg5 fun k hk => by injection hk with hk; omega⟩
  · have hse : s.toList.isEmpty = false := by rw [isEmpty_size2, decide_eq_false hs0]
    replace hs0 := Lib.hid hs0
    go_wp2_with fail
    refine (pick_any g _ _ _ hr3 (by omega) (by omega)).mono ?_
    rintro e w4 ⟨x, rfl, _, _, hr4, hg4⟩
    have hB4 := bgrow hB3 hg4 fun k hk => by injection hk with hk; omega
    clear hB3 hr3 hg4
    by_cases hx : x = 0
    · subst hx
      go_wp2_with fail
      refine (of_new g _ _ _ _ _ (by exact hr4) (by omega) (by omega) (by rfl) (by decide)).mono ?_
      rintro e w5 ⟨s, rfl, hs, _, hg5⟩
      go_wp2_with fail
      go_ret
      exact ⟨⟨s, rfl, hs⟩, bgrow hB4 hg5 fun k hk => by injection hk with hk; omega⟩
    · have hne : (x == 0) = false := by simpa using hx
      clear hx
      go_wp2_with fail
      go_ret
      exact ⟨⟨s, rfl, by omega⟩, hB4⟩
end Go.Proofs.YthgfldabeaepaaaDoor
