/- The library's variables, as the calls find them; the library's functions of texts. No condition. -/
import Derived.Test.YthgfldabeaepaaaGreatDoorShelf
import Derived.Test.YthgfldabeaepaaaGreatDoorHelp
import Derived.Test.YthgfldabeaepaaaGreatDoorHost
import Derived.WalkSmall
import Derived.Lib.LaidTab
namespace Go.Proofs.YthgfldabeaepaaaGreatDoor
open Go.RowKit

theorem Tryz.infoStr : (Tryz.prog.info? 9).map (fun i => (i.zero, i.size, i.bytes)) = some (some (.string ByteArray.empty), 1, 16) := by kernel_rfl
/-- The values of a list of texts. -/
abbrev strs (ps : List ByteArray) : List Value := ps.map Value.string
theorem strs_oneCell (ps : List ByteArray) : ∀ u ∈ strs ps, u.oneCell' = true := by
  intro u hu
  obtain ⟨_, _, rfl⟩ := List.mem_map.1 hu
  rfl
theorem Rd.slen {w : World} {A : Option Addr} {n : Nat} {ps : List ByteArray} (h : Rd w A n (strs ps)) : ps.length = n := by simpa using h.1
theorem Rd.str {w : World} {A : Option Addr} {n k : Nat} {ps : List ByteArray} (h : Rd w A n (strs ps)) (hk : k < n) : ∃ b off p, A = some ⟨b, off, none⟩ ∧ ps[k]? = some p ∧ w.cell? ⟨b, off + k, none⟩ = some (.string p) := by
  obtain ⟨b, off, v, rfl, hv, hc⟩ := h.at_ hk
  rw [List.getElem?_map] at hv
  cases hz : ps[k]? with
  | none => rw [hz] at hv; cases hv
  | some x => rw [hz] at hv; cases hv; exact ⟨b, off, x, rfl, rfl, hc⟩
theorem rd_row (w : World) (e : TypeId) (cs : Array Value) (n : Nat) (hn : n ≤ 9223372036854775807) (hs : cs.size = n) : Rd (w.alloc (.cells cs e)) (some ⟨w.heap.size, 0, none⟩) n cs.toList := by
  refine ⟨by simpa using hs, hn, fun _ => ⟨_, _, rfl, fun j v hv => ?_⟩⟩
  rw [Nat.zero_add, cell_of_row _ _ j cs e (0, 0) (heap_alloc_new w _), ← hv]
  simp
theorem own_nilstr (w : World) : w.ownsRow w.heap.size 9 1 (.slice none 0 0) 0 (strs []) := World.ownsRow_nil _ _ _ _
theorem own_emptystr (w : World) : (w.alloc (.cells #[] 9)).ownsRow w.heap.size 9 1 (.slice (some ⟨w.heap.size, 0, none⟩) 0 0) 0 (strs []) := World.ownsRow_lit _ _ 0 (Nat.le_refl _) (by decide) rfl

/-- internal/bytealg.MaxLen holds some number. -/
def EnvM (w : World) : Prop := ∃ m : Int, w.cell? ⟨0, 0, none⟩ = some (.int .i64 m)
theorem EnvM.below {w w' : World} {B : Nat} (h : EnvM w) (hB : 0 < B) (hb : Below B w w') : EnvM w' := by
  obtain ⟨m, hm⟩ := h
  exact ⟨m, (hb.cell hB).trans hm⟩
theorem EnvM.lt {w : World} (h : EnvM w) : 0 < w.heap.size := by
  obtain ⟨m, hm⟩ := h
  exact World.block_lt_of_cell? w _ hm
theorem EnvM.step {w w' : World} (h : EnvM w) (hb : Below w.heap.size w w') : EnvM w' := h.below h.lt hb
theorem envM_shaped {w : World} (h : w.ShapedOpen Tryz.prog) : EnvM w := Tryz.laysM146.s1_3 w h
/-- strings.Split at a text of one letter. -/
theorem split_any (s : ByteArray) (c : UInt8) (w : World) (hM : EnvM w) (hs : s.size ≤ 4000000) :
    Calls Tryz.prog 35 #[.string s, .string ⟨#[c]⟩] w fun e w' => ∃ A n cap ps, e = .returned (.slice A n cap) ∧ ps.map lets = pieces c (lets s) ∧ Rd w' A n (strs ps) ∧ n ≤ cap ∧ Below w.heap.size w w' := by
  obtain ⟨m, hm⟩ := hM
  have hle := Lib.countB_le ⟨#[c]⟩ (Nat.le_refl 1) s.size s (Nat.le_refl _)
  have hlen := Lib.splitB_all ⟨#[c]⟩ (Nat.le_refl 1) 0 _ s rfl
  refine (Tryz.strings_Split s ⟨#[c]⟩ m w (by omega) hm (Nat.le_refl 1)).mono ?_
  rintro e w' ⟨rfl, rfl⟩
  refine ⟨_, _, _, Lib.splitB ⟨#[c]⟩ 0 (Lib.countB s ⟨#[c]⟩) s, rfl, splitB_pieces c s, ?_, Nat.le_refl _, (Below.refl _ _).alloc (Nat.le_refl _) _⟩
  have := rd_row w 9 (strs (Lib.splitB ⟨#[c]⟩ 0 (Lib.countB s ⟨#[c]⟩) s)).toArray (Lib.countB s ⟨#[c]⟩ + 1) (by omega) (by simpa using hlen)
  simpa using this
end Go.Proofs.YthgfldabeaepaaaGreatDoor
