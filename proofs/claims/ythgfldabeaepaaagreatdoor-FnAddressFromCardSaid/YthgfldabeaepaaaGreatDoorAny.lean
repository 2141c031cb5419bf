/- A statement whose order is open, by what each of its operations leaves in its own slot: no order is walked by itself. No condition. -/
import Derived.WalkKit
namespace Go.Proofs.YthgfldabeaepaaaGreatDoor
open Go.RowKit

/-- Slot by slot: u, but v at i. -/
def upd (u : Nat → Value) (i : Nat) (v : Value) : Nat → Value := fun j => if j = i then v else u j
theorem upd_same (u : Nat → Value) (i : Nat) (v : Value) : upd u i v i = v := if_pos rfl
theorem upd_ne (u : Nat → Value) {i j : Nat} (v : Value) (h : j ≠ i) : upd u i v j = u j := if_neg h

section
variable {P : Program} {ops : Array Oper} {Q : Exit → Act → World → Prop} {md : Region.Mode}

theorem ready_of_topo (htopo : ∀ (i : Nat) (o : Oper), ops[i]? = some o → ∀ e ∈ o.after, e.on < i) {listed : Array Bool} (hs : listed.size = ops.size) (h : Region.ready md ops listed = []) : ∀ i, i < ops.size → listed.getD i false = true := by
  intro i
  induction i using Nat.strongRecOn with
  | ind i ih =>
    intro hi
    cases hl : listed.getD i false with
    | true => rfl
    | false =>
      exfalso
      have hmem : i ∈ Region.ready md ops listed := by
        refine mem_ready.2 ⟨?_, ops[i], Array.getElem?_eq_getElem hi, fun e he _ => ih e.on (htopo i _ (Array.getElem?_eq_getElem hi) e he) (Nat.lt_trans (htopo i _ (Array.getElem?_eq_getElem hi) e he) hi)⟩
        simpa [hs, hi] using hl
      rw [h] at hmem
      cases hmem

/-- Each operation, whenever it may come up, leaves its slot right, keeps the other slots right and takes J a step on: so the whole statement does, in every order. -/
theorem wpAny_slots (frame : (Nat → Value) → Act) (slotOK : Nat → Value → World → Prop) (J : Nat → World → Prop)
    (htopo : ∀ (i : Nat) (o : Oper), ops[i]? = some o → ∀ e ∈ o.after, e.on < i)
    (hput : ∀ (i : Nat) (o : Oper), ops[i]? = some o → ∀ u v, (frame u).put o.dst v = frame (upd u i v))
    (hstep : ∀ (i : Nat) (o : Oper) (t : Nat) (u : Nat → Value) (w : World), ops[i]? = some o → t < ops.size → (∀ j, (∃ e ∈ o.after, Region.binds md e = true ∧ e.on = j) → slotOK j (u j) w) → J t w →
      wpOp P ops Q i (fun a' w' => ∃ v, a' = (frame u).put o.dst v ∧ slotOK i v w' ∧ (∀ j x, slotOK j x w → slotOK j x w') ∧ J (t + 1) w') (frame u) w)
    (hend : ∀ u w, (∀ j, j < ops.size → slotOK j (u j) w) → (∃ t, J t w) → Q .normal (frame u) w) :
    ∀ (fuel t : Nat) (listed : Array Bool) (u : Nat → Value) (w : World), fuel + t = ops.size → listed.size = ops.size → (listed.toList.count false = fuel) →
      (∀ j, listed.getD j false = true → slotOK j (u j) w) → J t w → wpAny P md ops Q fuel listed (frame u) w := by
  intro fuel
  induction fuel with
  | zero =>
    intro t listed u w _ hs hc hok hJ
    have hall : ∀ j, j < ops.size → listed.getD j false = true := by
      intro j hj
      cases hl : listed.getD j false with
      | true => rfl
      | false =>
        have : false ∈ listed.toList := by
          have hj' : j < listed.size := by omega
          have : listed[j] = false := by simpa [hj'] using hl
          rw [← this]
          simp
        rw [List.count_eq_zero] at hc
        exact absurd this hc
    refine ⟨?_, hend u w (fun j hj => hok j (hall j hj)) ⟨t, hJ⟩⟩
    apply List.eq_nil_iff_forall_not_mem.2
    intro i hi
    obtain ⟨hun, o, ho, _⟩ := mem_ready.1 hi
    have hi' := (Array.getElem?_eq_some_iff.1 ho).1
    have := hall i hi'
    have hi2 : i < listed.size := by omega
    simp [hi2] at hun this
    rw [hun] at this
    cases this
  | succ fuel ih =>
    intro t listed u w hft hs hc hok hJ
    refine ⟨fun hr => hend u w (fun j hj => hok j (ready_of_topo htopo hs hr j hj)) ⟨t, hJ⟩, fun i hi => ?_⟩
    obtain ⟨hun, o, ho, hdeps⟩ := mem_ready.1 hi
    have hi' := (Array.getElem?_eq_some_iff.1 ho).1
    have hi2 : i < listed.size := by omega
    refine wpOp_mono ?_ (hstep i o t u w ho (by omega) (fun j ⟨e, he, hb, hj⟩ => hok j (by rw [← hj]; exact hdeps e he hb)) hJ)
    rintro a' w' ⟨v, rfl, hv, hkeep, hJ'⟩
    rw [hput i o ho]
    refine ih (t + 1) _ _ _ (by omega) (by simpa using hs) ?_ ?_ hJ'
    · have hget : listed[i] = false := by simpa [hi2] using hun
      have : (listed.setIfInBounds i true).toList = listed.toList.set i true := by simp
      rw [this]
      have h2 := List.count_set (l := listed.toList) (a := true) (b := false) (i := i) (by simpa using hi2)
      have h3 : listed.toList[i]'(by simpa using hi2) = false := by simpa using hget
      rw [h2, h3, hc]
      simp
    · intro j hj
      by_cases hji : j = i
      · subst hji
        rw [upd_same]
        exact hv
      · rw [upd_ne u v hji]
        refine hkeep j _ (hok j ?_)
        rw [Array.getD_eq_getD_getElem?, Array.getElem?_setIfInBounds_ne (fun e => hji e.symm)] at hj
        rw [Array.getD_eq_getD_getElem?]
        exact hj

/-- An operation without a guard, walked by itself. -/
theorem wpOp_plain {i : Nat} {o : Oper} {K : Act → World → Prop} {a : Act} {w : World} (ho : ops[i]? = some o) (hg : o.guard = none)
    (h : ∀ K' : Act → World → Prop, (∀ a w, K a w → K' a w) → o.wp P a w K' Q) : wpOp P ops Q i K a w := by
  unfold wpOp
  rw [ho]
  simp only [Region.wanted, hg, if_true]
  exact .inl (h K fun _ _ h => h)
end
end Go.Proofs.YthgfldabeaepaaaGreatDoor
