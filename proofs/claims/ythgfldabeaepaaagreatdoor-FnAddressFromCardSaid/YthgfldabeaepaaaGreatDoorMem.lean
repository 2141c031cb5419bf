/- Plain words for memory: a slice that reads as a list of values, a slice of the call's own, worlds that keep what was there. No condition. -/
import Derived.WalkKit
import Derived.Lib.Hide
import Derived.Handy
import Derived.Deep.QuietTactic
import Derived.BigQuiet
namespace Go.Proofs.YthgfldabeaepaaaGreatDoor
open Go.RowKit

/-- The values of a list of ints. -/
abbrev ints (zs : List Int) : List Value := zs.map (Value.int .i64)

/-- The slice '.slice A n c' reads as the values vs. -/
def Rd (w : World) (A : Option Addr) (n : Nat) (vs : List Value) : Prop :=
  vs.length = n ∧ n ≤ 9223372036854775807 ∧ (0 < n → ∃ b off, A = some ⟨b, off, none⟩ ∧ ∀ j v, vs[j]? = some v → w.cell? ⟨b, off + j, none⟩ = some v)

theorem bdrewN {B : Nat} {w w' : World} (h : Below B w w') (n : Nat) : Below B w (w'.drewN n) := ⟨h.os, h.tape, h.output, h.size, h.block⟩

/-- A call that turns nothing, inside a statement that draws its order. -/
theorem quiet_same {P : Program} {f : FuncId} {args : Array Value} {w : World} {n : Nat} {v : Value} (h : Calls P f args (w.drewN n) fun e w' => e = .returned v ∧ w.drewN n = w') :
    Calls P f args (w.drewN n) fun e w'' => e = .returned v ∧ ∃ m, w'' = w.drewN m := h.mono fun _ _ ⟨he, hm⟩ => ⟨he, n, hm.symm⟩

section
variable {w w' : World} {A : Option Addr} {n : Nat} {vs : List Value} {zs : List Int}

theorem Rd.len (h : Rd w A n vs) : vs.length = n := h.1
theorem Rd.ilen (h : Rd w A n (ints zs)) : zs.length = n := by simpa using h.1
theorem Rd.max (h : Rd w A n vs) : n ≤ 9223372036854775807 := h.2.1

theorem Rd.at_ {k : Nat} (h : Rd w A n vs) (hk : k < n) : ∃ b off v, A = some ⟨b, off, none⟩ ∧ vs[k]? = some v ∧ w.cell? ⟨b, off + k, none⟩ = some v := by
  obtain ⟨b, off, rfl, hc⟩ := h.2.2 (by omega)
  have hl : k < vs.length := by have := h.1; omega
  exact ⟨b, off, vs[k], rfl, List.getElem?_eq_getElem hl, hc k _ (List.getElem?_eq_getElem hl)⟩

theorem Rd.kind {kd : IntKind} {k : Nat} (h : Rd w A n (zs.map (Value.int kd))) (hk : k < n) : ∃ b off x, A = some ⟨b, off, none⟩ ∧ zs[k]? = some x ∧ w.cell? ⟨b, off + k, none⟩ = some (.int kd x) := by
  obtain ⟨b, off, v, rfl, hv, hc⟩ := h.at_ hk
  rw [List.getElem?_map] at hv
  cases hz : zs[k]? with
  | none => rw [hz] at hv; cases hv
  | some x => rw [hz] at hv; cases hv; exact ⟨b, off, x, rfl, rfl, hc⟩
theorem Rd.int {k : Nat} (h : Rd w A n (ints zs)) (hk : k < n) : ∃ b off x, A = some ⟨b, off, none⟩ ∧ zs[k]? = some x ∧ w.cell? ⟨b, off + k, none⟩ = some (.int .i64 x) := h.kind hk

theorem Rd.cells (h : Rd w A n (ints zs)) (hn : 0 < n) : ∃ b off, A = some ⟨b, off, none⟩ ∧ ∀ j x, zs[j]? = some x → w.cell? ⟨b, off + j, none⟩ = some (.int .i64 x) := by
  obtain ⟨b, off, rfl, hc⟩ := h.2.2 hn
  exact ⟨b, off, rfl, fun j x hj => hc j _ (by rw [List.getElem?_map, hj]; rfl)⟩
theorem rd_lit (w : World) (e : TypeId) (cs : Array Value) (n : Nat) (hn : n ≤ 1000000) (hs : cs.size = n) : Rd (w.alloc (.cells cs e)) (some ⟨w.heap.size, 0, none⟩) n cs.toList := by
  refine ⟨by simpa using hs, by omega, fun _ => ⟨_, _, rfl, fun j v hv => ?_⟩⟩
  rw [Nat.zero_add, cell_of_row _ _ j cs e (0, 0) (heap_alloc_new w _), ← hv]
  simp

theorem Rd.nil (w : World) (A : Option Addr) : Rd w A 0 [] := ⟨rfl, by omega, fun h => absurd h (by omega)⟩

theorem Rd.keep (h : Rd w A n vs) (hk : ∀ p : Addr, p.block < w.heap.size → w'.cell? p = w.cell? p) : Rd w' A n vs :=
  ⟨h.1, h.2.1, fun hn => by
    obtain ⟨b, off, rfl, hc⟩ := h.2.2 hn
    exact ⟨b, off, rfl, fun j v hv => (hk _ (World.block_lt_of_cell? w _ (hc j v hv))).trans (hc j v hv)⟩⟩
theorem Rd.below (h : Rd w A n vs) (hb : Below w.heap.size w w') : Rd w' A n vs := h.keep fun _ hp => hb.cell hp
theorem Rd.alloc (h : Rd w A n vs) (o : Obj) : Rd (w.alloc o) A n vs := h.below ((Below.refl _ _).alloc (Nat.le_refl _) o)
theorem Rd.drew (h : Rd w A n vs) : Rd w.drew A n vs := h
theorem Rd.drewN (h : Rd w A n vs) (k : Nat) : Rd (w.drewN k) A n vs := h
theorem Rd.grown {row : Option Nat} (h : Rd w A n vs) (hg : w.grownBy w' row) (hne : n = 0 ∨ A.map (·.block) ≠ row) : Rd w' A n vs :=
  ⟨h.1, h.2.1, fun hn => by
    obtain ⟨b, off, rfl, hc⟩ := h.2.2 hn
    exact ⟨b, off, rfl, fun j v hv => hg.cell (hc j v hv) (by rcases hne with h0 | h0; omega; simpa using h0)⟩⟩
theorem Rd.own {base : Nat} {e : TypeId} {c : Nat} (h : w.ownsRow base e 1 (.slice A n c) n vs) : Rd w A n vs := by
  refine ⟨by simpa using h.1, ?_, fun hn => ?_⟩
  · rcases h.2 with ⟨_, rfl⟩ | ⟨_, cap, _, _, _, _, h1, h2, _⟩
    · omega
    · unfold maxLen at h2; omega
  · rcases h.2 with ⟨_, rfl⟩ | ⟨g, cap, cur, hv, _, _, _⟩
    · omega
    · injection hv with hA
      subst hA
      refine ⟨g, 0, rfl, fun j v hv => ?_⟩
      have := h.cells (g := g) rfl j v hv
      rw [Nat.zero_add]
      simpa [Addr.add_lit] using this
/-- A part at the front. -/
theorem Rd.take {k : Nat} (h : Rd w A n vs) (hk : k ≤ n) : Rd w A k (vs.take k) := by
  refine ⟨by rw [List.length_take, h.1]; omega, by have := h.max; omega, fun h0 => ?_⟩
  obtain ⟨b, off, rfl, hc⟩ := h.2.2 (by omega)
  refine ⟨b, off, rfl, fun j v hv => hc j v ?_⟩
  rw [List.getElem?_take] at hv
  split at hv
  · exact hv
  · cases hv
/-- It lies below the heap's end. -/
theorem Rd.under (h : Rd w A n vs) : n = 0 ∨ ∃ b, A.map (·.block) = some b ∧ b < w.heap.size := by
  by_cases hn : n = 0
  · exact .inl hn
  · obtain ⟨b, off, u, rfl, _, hc⟩ := h.at_ (k := 0) (by omega)
    exact .inr ⟨b, rfl, World.block_lt_of_cell? w _ hc⟩
theorem Rd.old (h : Rd w A n vs) {g : Nat} (hg : w.heap.size ≤ g) : n = 0 ∨ A.map (·.block) ≠ some g := by
  rcases h.under with h0 | ⟨b, hb, hlt⟩
  · exact .inl h0
  · exact .inr (by rw [hb]; simp; omega)
theorem grown_set (w : World) (g j : Nat) (u : Value) : w.grownBy (w.setCell ⟨g, j, none⟩ u) (some g) :=
  ⟨rfl, rfl, rfl, by simp [World.setCell], fun k _ hne => Below.heap_setCell _ _ _ _ (by simpa using hne)⟩
/-- A slice that read so when fewer blocks lay does not lie in a row made later. -/
theorem Rd.apart {base : Nat} {e : TypeId} {v : Value} {m : Nat} {us : List Value} {w0 : World} (h : Rd w0 A n vs) (hB : w0.heap.size ≤ base) (ho : w.ownsRow base e 1 v m us) : n = 0 ∨ A.map (·.block) ≠ v.ownBlock := by
  by_cases hn : n = 0
  · exact .inl hn
  · obtain ⟨b, off, u, rfl, _, hc⟩ := h.at_ (k := 0) (by omega)
    have hlt := World.block_lt_of_cell? w0 _ hc
    cases hv : v.ownBlock with
    | none => exact .inr (by simp)
    | some g =>
      have := (ho.lt g hv).1
      refine .inr ?_
      simp only [Option.map_some, ne_eq, Option.some.injEq]
      simp only at hlt
      omega
/-- It reads so still behind a store into such a row. -/
theorem Rd.far {base : Nat} {e : TypeId} {v : Value} {m : Nat} {us ts : List Value} {w0 w1 : World} (h : Rd w A n vs) (h0 : Rd w0 A n ts) (hB : w0.heap.size ≤ base) (ho : w1.ownsRow base e 1 v m us) (hg : w.grownBy w' v.ownBlock) : Rd w' A n vs :=
  h.grown hg (h0.apart hB ho)
end

section
variable {w w' : World} {base : Nat} {e : TypeId} {v : Value} {n : Nat} {xs : List Value}
theorem own_below (h : w.ownsRow base e 1 v n xs) (hb : Below w.heap.size w w') : w'.ownsRow base e 1 v n xs :=
  h.kept ⟨hb.os, hb.tape, hb.output, hb.size, fun k hk _ => hb.block k hk⟩ (row := none) (by cases v.ownBlock <;> simp)
theorem own_base (h : w.ownsRow base e 1 v n xs) {B : Nat} (hB : B ≤ base) : w.ownsRow B e 1 v n xs := by
  obtain ⟨h1, h2 | ⟨g, cap, cur, a, b, c⟩⟩ := h
  · exact ⟨h1, .inl h2⟩
  · exact ⟨h1, .inr ⟨g, cap, cur, a, by omega, c⟩⟩
/-- What a slice of the call's own looks like. -/
theorem own_form (h : w.ownsRow base e 1 v n xs) : ∃ A c, v = .slice A n c ∧ n ≤ 9223372036854775807 ∧ xs.length = n := by
  obtain ⟨h1, ⟨rfl, rfl⟩ | ⟨g, cap, cur, rfl, _, _, h3, h4, _⟩⟩ := h
  · exact ⟨none, 0, rfl, by omega, by simpa using h1⟩
  · exact ⟨_, cap, rfl, by unfold maxLen at h4; omega, by simpa using h1⟩
/-- A slice of the call's own that is not empty: its block. -/
theorem own_block {A : Option Addr} {c : Nat} (h : w.ownsRow base e 1 (.slice A n c) n xs) (hn : 0 < n) : ∃ g, A = some ⟨g, 0, none⟩ ∧ base ≤ g ∧ g < w.heap.size ∧
    (∀ j, j < n → w.cell? ⟨g, j, none⟩ = xs[j]?) ∧ (∀ j, w.frozen? ⟨g, j, none⟩ = false) ∧
    ∀ j u, (w.setCell ⟨g, j, none⟩ u).ownsRow base e 1 (.slice A n c) n (xs.set j u) ∧ w.grownBy (w.setCell ⟨g, j, none⟩ u) (some g) := by
  rcases h.2 with ⟨_, rfl⟩ | ⟨g, cap, cur, hv, hg, hh, _⟩
  · omega
  · injection hv with hA
    subst hA
    refine ⟨g, rfl, hg, (Array.getElem?_eq_some_iff.1 hh).1, fun j hj => h.cellAt j (by omega), fun j => h.frozenAt j, fun j u => ?_⟩
    exact h.stored j u
theorem own_cap {A : Option Addr} {c : Nat} (h : w.ownsRow base e 1 (.slice A n c) n xs) : n ≤ c ∧ c ≤ 9223372036854775807 := by
  rcases h.2 with ⟨hv, rfl⟩ | ⟨g, cap, cur, hv, _, _, h3, h4, _⟩
  · injection hv with _ _ hc
    omega
  · injection hv with _ _ hc
    unfold maxLen at h4
    omega
theorem own_take {A : Option Addr} {c k : Nat} (h : w.ownsRow base e 1 (.slice A n c) n xs) (hk : k ≤ n) : w.ownsRow base e 1 (.slice A k c) k (xs.take k) := by
  have hl := h.1
  refine ⟨by simp; omega, ?_⟩
  rcases h.2 with ⟨hv, rfl⟩ | ⟨g, cap, cur, hv, hg, hh, h3, h4, h5, h6⟩
  · injection hv with h1 _ h3
    subst h1 h3
    obtain rfl : k = 0 := by omega
    exact .inl ⟨rfl, rfl⟩
  · injection hv with h1 _ h3'
    subst h1 h3'
    refine .inr ⟨g, c, cur, rfl, hg, hh, by omega, h4, h5, ?_⟩
    rw [← h6, List.take_take]
    congr 1
    omega
theorem grown_step {w0 : World} {r0 row : Option Nat} (h : w0.grownBy w r0) (hg : w.grownBy w' row) (hr : ∀ k, row = some k → w0.heap.size ≤ k) : w0.grownBy w' r0 :=
  ⟨hg.os.trans h.os, hg.tape.trans h.tape, hg.output.trans h.output, Nat.le_trans h.size hg.size, fun k hk hne => (hg.block k (Nat.lt_of_lt_of_le hk h.size) (fun e => by have := hr k e.symm; omega)).trans (h.block k hk hne)⟩
theorem own_pick {g : Nat} (h : w.ownsRow base e 1 v n xs) (hg : w.grownBy w' (some g)) (hlt : g < base) : w'.ownsRow base e 1 v n xs := by
  refine h.kept hg ?_
  cases hv : v.ownBlock with
  | none => exact .inl rfl
  | some k =>
    have := (h.lt k hv).1
    exact .inr (by simp; omega)
theorem grown_below {B : Nat} {row : Option Nat} (hg : w.grownBy w' row) (hB : B ≤ w.heap.size) (hr : ∀ k, row = some k → B ≤ k) : Below B w w' := (Below.refl B w).grown hg hB hr
theorem below_grown (hb : Below w.heap.size w w') (row : Option Nat) : w.grownBy w' row := ⟨hb.os, hb.tape, hb.output, hb.size, fun k hk _ => hb.block k hk⟩
theorem grown_trans {w1 w2 w3 : World} {row : Option Nat} (h : w1.grownBy w2 row) (k : w2.grownBy w3 row) : w1.grownBy w3 row :=
  ⟨k.os.trans h.os, k.tape.trans h.tape, k.output.trans h.output, Nat.le_trans h.size k.size, fun i hi hne => (k.block i (Nat.lt_of_lt_of_le hi h.size) hne).trans (h.block i hi hne)⟩
theorem own_frees {B : Nat} (h : w.ownsRow B e 1 v n xs) : ∀ k, v.ownBlock = some k → B ≤ k := fun k hk => (h.lt k hk).1
end
/-- Step by step: what lay when the call began lies still. -/
theorem bstep {w w1 w2 : World} (hB : Below w.heap.size w w1) (hb : Below w1.heap.size w1 w2) : Below w.heap.size w w2 := hB.trans (hb.mono hB.size)
theorem bgrow {w w1 w2 : World} {row : Option Nat} (hB : Below w.heap.size w w1) (hg : w1.grownBy w2 row) (hr : ∀ k, row = some k → w.heap.size ≤ k) : Below w.heap.size w w2 := hB.grown hg hB.size hr
/-- A store into a row of the call's own. -/
theorem bown {w w1 w2 w3 : World} {base : Nat} {e : TypeId} {v : Value} {n : Nat} {xs : List Value} (hB : Below w.heap.size w w1) (ho : w3.ownsRow base e 1 v n xs) (hbase : w.heap.size ≤ base) (hg : w1.grownBy w2 v.ownBlock) : Below w.heap.size w w2 :=
  bgrow hB hg fun k hk => Nat.le_trans hbase (ho.lt k hk).1
theorem grown_drews {w w' : World} {row : Option Nat} (h : w.grownBy w' row) (k : Nat) : w.grownBy (w'.drewN k) row := ⟨h.os, h.tape, h.output, h.size, h.block⟩
theorem below_drew {w w2 : World} (h : Below w.drew.heap.size w.drew w2) : Below w.heap.size w w2 := ⟨h.os, h.tape, h.output, h.size, h.block⟩
end Go.Proofs.YthgfldabeaepaaaGreatDoor
