/- The functions that draw bytes with a change. No condition. -/
import Derived.Test.YtjlgkepbflcefaaDoorDrawA
import Derived.Test.YtjlgkepbflcefaaDoorAB
namespace Go.Proofs.YtjlgkepbflcefaaDoor
open Go.RowKit
/-- Bytes of the call's own that are drawn. -/
def ChangedI (B0 : Nat) (w0 : World) (B : Nat) (e : Ending) (w' : World) : Prop := ∃ A n c zs, e = .returned (.slice A n c) ∧ n ≤ 2000 ∧ w'.ownsRow B 3 1 (.slice A n c) n (ints zs) ∧ Below B0 w0 w'
set_option maxRecDepth 20000 in
set_option maxHeartbeats 2000000 in
theorem l91Changed_any (g m B n c : Nat) (A : Option Addr) (zs : List Int) (B0 : Nat) (w0 w : World) (hB : Below B0 w0 w) (hg0 : B0 ≤ g) (hgB : g < B) (hr : Rdr w g m) (hm : m ≤ 80000) (ho : w.ownsRow B 3 1 (.slice A n c) n (ints zs)) (hn : n ≤ 1000) (hbw : B ≤ w.heap.size) :
    Calls Tryd.prog 52 #[.pointer (some ⟨g, 0, none⟩), .slice A n c] w (ChangedI B0 w0 B) := by
  have hl : zs.length = n := by simpa using ho.1
  have hcap := own_cap ho
  by_cases h0 : n = 0
  · subst h0
    have hn0 : ((0 : Int) == 0) = true := rfl
    go_enter Tryd.func52, Tryd.ntmps52
    go_wp2_with fail
    go_ret
    exact ⟨_, 3, 3, [5, 1, 0], rfl, by omega, own_base (own_cells w 3 #[.int .i64 5, .int .i64 1, .int .i64 0] 3 (by omega) rfl) hbw, hB.alloc (by omega) _⟩
  have hn0 : ((n : Int) == 0) = false := by simpa using h0
  clear h0
  have hn1 : 1 ≤ n := by
    rcases Nat.eq_zero_or_pos n with h | h
    · subst h
      cases hn0
    · exact h
  go_enter Tryd.func52, Tryd.ntmps52
  go_wp2_with fail
  refine (pick_any g m _ _ hr (by omega) (by omega)).mono ?_
  rintro e w1 ⟨k, rfl, hk0, hk1, hr1, hg1⟩
  replace hk1 := hk1 (by omega)
  obtain ⟨k, rfl⟩ := Int.eq_ofNat_of_zero_le hk0
  replace ho := own_pick ho hg1 hgB
  have hB1 : Below B0 w0 w1 := hB.grown hg1 (by omega) fun k hk => by injection hk with hk; omega
  have hs1 := hg1.size
  clear hg1 hB hr
  go_wp2_with fail
  refine (pick_any g _ _ _ hr1 (by omega) (by omega)).mono ?_
  rintro e w2 ⟨x, rfl, _, _, hr2, hg2⟩
  replace ho := own_pick ho hg2 hgB
  have hB2 : Below B0 w0 w2 := hB1.grown hg2 (by omega) fun k hk => by injection hk with hk; omega
  have hs2 := hg2.size
  clear hg2 hB1 hr1
  by_cases x0 : x = 0
  · subst x0
    go_wp2_with fail
    refine (pick_any g _ _ _ hr2 (by omega) (by omega)).mono ?_
    rintro e w3 ⟨y, rfl, _, _, hr3, hg3⟩
    replace ho := own_pick ho hg3 hgB
    have hB3 : Below B0 w0 w3 := hB2.grown hg3 (by omega) fun k hk => by injection hk with hk; omega
    clear hg3 hB2 hr2
    obtain ⟨gb, rfl, hBg, hgw, hcell, hfz, hset⟩ := own_block ho (by omega)
    have hck : w3.cell? ⟨gb, k, none⟩ = some (.int .i64 (zs.getD k 0)) := by
      rw [hcell k (by omega)]
      simp [List.getD, List.getElem?_eq_getElem (show k < zs.length by omega)]
    generalize zs.getD k 0 = old at hck
    have hf := hfz k
    obtain ⟨hs1', hs2'⟩ := hset k (.int .i64 y)
    rw [← List.map_set] at hs1'
    have hk0' : (0 : Int) ≤ (k : Int) := by omega
    clear hcell hfz hset ho
    go_wp2_with fail
    go_ret
    exact ⟨_, n, c, zs.set k y, rfl, by omega, hs1', hB3.grown hs2' (by omega) fun k hk => by injection hk with hk; omega⟩
  have x0' : (x == 0) = false := by simpa using x0
  by_cases x1 : x = 1
  · subst x1
    have hkc : (k : Int) ≤ (c : Int) := by omega
    have hok := own_take (k := k) ho (by omega)
    rw [← List.map_take] at hok
    clear x0
    go_wp2_with fail
    go_ret
    exact ⟨_, k, c, zs.take k, rfl, by omega, hok, hB2⟩
  have x1' : (x == 1) = false := by simpa using x1
  by_cases x23 : x = 2 ∨ x = 3
  · rcases x23 with rfl | rfl
    all_goals
      clear x0 x1
      go_wp2_with fail
      refine (l91Bytes_any g _ 3 _ hr2 (by omega) (by omega)).mono ?_
      rintro e w3 ⟨A3, n3, c3, ys, rfl, hn3, ho3, hr3, hg3⟩
      replace ho := own_pick ho hg3 hgB
      have hB3 : Below B0 w0 w3 := hB2.grown hg3 (by omega) fun k hk => by injection hk with hk; omega
      have hs3 := hg3.size
      have hr3' := Rd.own ho3
      clear hg3 hB2 hr2 ho3 hr3
      go_wp2_with (at_builtin; refine wpList_append_rd _ rfl _ _ rfl B A n c zs rfl ho A3 n3 c3 ys rfl hr3' (by omega) (by omega) ?_)
      intro A4 c4 w4 ho4 hg4
      have hB4 : Below B0 w0 w4 := hB3.grown hg4 (by omega) fun k hk => by have := own_frees ho k hk; omega
      go_wp2_with fail
      go_ret
      exact ⟨A4, n + n3, c4, zs ++ ys, rfl, by omega, by simpa [ints] using ho4, hB4⟩
  · have x2' : (x == 2) = false := by
      have : x ≠ 2 := fun h => x23 (.inl h)
      simpa using this
    have x3' : (x == 3) = false := by
      have : x ≠ 3 := fun h => x23 (.inr h)
      simpa using this
    clear x0 x1 x23
    go_wp2_with fail
    go_ret
    exact ⟨A, n, c, zs, rfl, by omega, ho, hB2⟩
/-- What a function that draws bytes leaves. -/
def DrawnI (w : World) (e : Ending) (w' : World) : Prop := ∃ A n c zs, e = .returned (.slice A n c) ∧ n ≤ 2000 ∧ w'.ownsRow w.heap.size 3 1 (.slice A n c) n (ints zs) ∧ Below w.heap.size w w'
theorem adW_le {a : Ad} {zs : List Int} {b : Bool} (h : adW a = (zs, b)) : zs.length ≤ 100 := by
  unfold adW at h
  split at h
  · next hv =>
    injection h with h _
    subst h
    have := adB_size hv
    omega
  · injection h with h _
    subst h
    simp
set_option maxRecDepth 20000 in
set_option maxHeartbeats 1000000 in
theorem drawAddressOf_any (A : Option Addr) (n c : Nat) (zs : List Int) (w : World) (hx : Rd w A n (zs.map (Value.int .u8))) (hc : n ≤ c) (hv : ∀ z ∈ zs, 0 ≤ z ∧ z ≤ 255) :
    Calls Tryd.prog 23 #[.slice A n c] w (DrawnI w) := by
  go_enter Tryd.func23, Tryd.ntmps23
  go_wp2_with fail
  refine (l6Open_any A n c zs _ hx hc hv).mono ?_
  rintro e w1 ⟨g, rfl, hge, hr1, hB1⟩
  have hs1 := hB1.size
  go_wp2_with fail
  refine (l91Address_any g 0 _ hr1 (by omega)).mono ?_
  rintro e w2 ⟨a, A2, n2, c2, rfl, hn2, hsz, ho, hr2, hg2⟩
  have hg2w : g < w1.heap.size := hr1.lt
  have hB2 : Below w.heap.size w w2 := bgrow hB1 hg2 fun k hk => by injection hk with hk; omega
  have hs2 := hg2.size
  clear hg2 hr1 hB1
  obtain ⟨ys, b, hf⟩ : ∃ ys b, adW a = (ys, b) := ⟨_, _, rfl⟩
  have hyl := adW_le hf
  replace hf := Lib.hid hf
  go_wp2_with fail
  refine (addressBytes_spec a A2 n2 c2 _ (Rd.own ho) (by omega) _ _ hf.out).mono ?_
  rintro e w3 ⟨A3, n3, c3, rfl, ho3, hb3⟩
  have hB3 := bstep hB2 hb3
  have hr3 := hr2.below hb3
  have hl3 := (Rd.own ho3).ilen
  have hs3 := hb3.size
  clear hb3 hB2 hr2 ho hf
  go_wp2_with fail
  refine (l91Changed_any g _ w2.heap.size n3 c3 A3 ys w.heap.size w _ hB3 (by omega) (by omega) hr3 (by omega) ho3 (by omega) hs3).mono ?_
  rintro e w4 ⟨A4, n4, c4, us, rfl, hn4, ho4, hB4⟩
  go_wp2_with fail
  go_ret
  exact ⟨A4, n4, c4, us, rfl, hn4, own_base ho4 (by omega), hB4⟩
end Go.Proofs.YtjlgkepbflcefaaDoor
