/- Words for the address of a text. No condition. -/
import Derived.Test.YthgfldabeaepaaaGreatDoorAdT
import Derived.Laws.Rows
import Derived.Lib.IndexBytes
import Derived.Lib.IndexMore
namespace Go.Proofs.YthgfldabeaepaaaGreatDoor
open Go.RowKit
theorem index_at (c : UInt8) (t : List UInt8) : ∀ h : List UInt8, c ∉ h → Lib.indexByte (h ++ c :: t) c = h.length
  | [], _ => by simp [Lib.indexByte]
  | b :: h, hn => by
    have hb : (b == c) = false := by
      rw [beq_eq_false_iff_ne]
      exact fun e => hn (by rw [e]; simp)
    have ih := index_at c t h (fun hm => hn (List.mem_cons_of_mem _ hm))
    have hne : ((h.length : Int) == -1) = false := by
      rw [beq_eq_false_iff_ne]
      omega
    simp [Lib.indexByte, hb, ih, hne]
theorem index_no (c : UInt8) : ∀ h : List UInt8, c ∉ h → Lib.indexByte h c = -1
  | [], _ => rfl
  | b :: h, hn => by
    have hb : (b == c) = false := by
      rw [beq_eq_false_iff_ne]
      exact fun e => hn (by rw [e]; simp)
    have ih := index_no c h (fun hm => hn (List.mem_cons_of_mem _ hm))
    simp [Lib.indexByte, hb, ih]
theorem cut_cases (c : UInt8) (s : List UInt8) : (c ∉ s ∧ Lib.cut s [c] = (s, [], false)) ∨ ∃ h t, s = h ++ c :: t ∧ c ∉ h ∧ Lib.cut s [c] = (h, t, true) := by
  by_cases hm : c ∈ s
  · obtain ⟨h, t, rfl, hn⟩ := List.eq_append_cons_of_mem hm
    refine .inr ⟨h, t, rfl, hn, ?_⟩
    unfold Lib.cut
    rw [Lib.index_one, index_at c t h hn, if_pos (by omega)]
    simp
  · refine .inl ⟨hm, ?_⟩
    unfold Lib.cut
    rw [Lib.index_one, index_no c s hm, if_neg (by omega)]
theorem adF_no (a : Ad) {l : List UInt8} {b : Bool} (h : adF l = (a, b)) : a.quad.length ≤ 4 ∧ a.name.size ≤ 20 := by
  cases b with
  | true =>
    have hv := (adF_true h).1
    refine ⟨?_, adV_name hv⟩
    obtain ⟨_, h1 | h1⟩ := adV_true.1 hv
    · have := (qv_true.1 h1.2.1).1
      omega
    · rw [h1.2.2]
      simp
  | false =>
    rw [(adF_false h).1]
    exact ⟨by simp [Ad.none], by show (0 : Nat) ≤ 20; omega⟩
theorem adH_size (l : List UInt8) (p : Int) : (adH l p).name.size ≤ l.length := by
  unfold adH
  split
  · show (0 : Nat) ≤ _
    omega
  · show (txt l).size ≤ _
    rw [txt_size]
    exact Nat.le_refl _
theorem adH_of_quad {l : List UInt8} {p : Int} {q : List Int} (h : quadF l = (q, true)) : adH l p = ⟨1, q, ⟨#[]⟩, p⟩ := by
  unfold adH
  rw [h]
  rfl
theorem adH_of_name {l : List UInt8} {p : Int} {q : List Int} (h : quadF l = (q, false)) : adH l p = ⟨3, [], txt l, p⟩ := by
  unfold adH
  rw [h]
  rfl
/-- An address of the call's own. -/
def RetAd (w : World) (a : Ad) (e : Ending) (w' : World) : Prop := ∃ A n c, e = .returned (adVal a A n c) ∧ w'.ownsRow w.heap.size 3 1 (.slice A n c) n (ints a.quad) ∧ Below w.heap.size w w'
/-- An address of the call's own, and whether it is so. -/
def RetAF (w : World) (a : Ad) (b : Bool) (e : Ending) (w' : World) : Prop := ∃ A n c, e = .returned (.tuple #[adVal a A n c, .bool b]) ∧ n ≤ 4 ∧ a.name.size ≤ 20 ∧ w'.ownsRow w.heap.size 3 1 (.slice A n c) n (ints a.quad) ∧ Below w.heap.size w w'
theorem results_cell2 {P : Program} {fn : Func} {p u : Tmp} {ty : TypeId} (h : fn.results = #[.cell p ty, .tmp u]) (tmps : Array Value) (w : World) (g : Nat) (t : TypeId) (cs : Array Value) (fr : Nat × Nat) (d : TypeDesc)
    (hp : tmps.getD p undef = .pointer (some ⟨g, 0, none⟩)) (hg : w.heap[g]? = some (.cells cs t fr))
    (hu : P.underlying ty = some d) (hd : (match d with | .struct _ | .array _ _ => true | _ => false) = true) (hi : (P.info? ty).map (·.size) = some cs.size) :
    (results fn tmps).run P w = .ok (.tuple #[.agg cs, tmps.getD u undef]) w := by
  have hp' : tmps[p]?.getD undef = .pointer (some ⟨g, 0, none⟩) := by simpa using hp
  simp [results, h, hp', asAddr, run_loadVar_row w g t ty cs fr d hg hu hd hi]
theorem frozen_four {w : World} {g : Nat} {cs : Array Value} {t : TypeId} (h : w.heap[g]? = some (.cells cs t (0, 0))) : w.frozen? ⟨g, 0, none⟩ = false ∧ w.frozen? ⟨g, 1, none⟩ = false ∧ w.frozen? ⟨g, 2, none⟩ = false ∧ w.frozen? ⟨g, 3, none⟩ = false :=
  ⟨frozen_of_row w g 0 _ _ h, frozen_of_row w g 1 _ _ h, frozen_of_row w g 2 _ _ h, frozen_of_row w g 3 _ _ h⟩
end Go.Proofs.YthgfldabeaepaaaGreatDoor
