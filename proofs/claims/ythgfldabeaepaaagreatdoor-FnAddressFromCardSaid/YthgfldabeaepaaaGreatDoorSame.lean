/- An address is the same as itself. No condition. -/
import Derived.Test.YthgfldabeaepaaaGreatDoorAd
namespace Go.Proofs.YthgfldabeaepaaaGreatDoor
open Go.RowKit
set_option maxRecDepth 20000 in
set_option maxHeartbeats 1000000 in
theorem sameAddress_same (a : Ad) (A : Option Addr) (n c : Nat) (B : Option Addr) (m d : Nat) (w : World) (hx : Rd w A n (ints a.quad)) (hy : Rd w B m (ints a.quad)) :
    Calls Tryz.prog 7 #[adVal a A n c, adVal a B m d] w fun e w' => e = .returned (.bool true) ∧ Below w.heap.size w w' := by
  have e1 : (a.kind == a.kind) = true := by simp
  have e2 : (a.name.toList == a.name.toList) = true := by simp
  have e3 : (a.port == a.port) = true := by simp
  go_enter Tryz.func7, Tryz.ntmps7
  go_wp2_with fail
  refine calls_gen fun wA hwA => ?_
  have hBA : Below w.heap.size w wA := by rw [hwA]; go_grown
  clear hwA
  refine (sameBytes_any _ _ _ _ _ _ _ _ _ (hx.below hBA) (hy.below hBA)).mono ?_
  rintro e w2 ⟨rfl, hb⟩
  rw [decide_eq_true rfl]
  have hB : Below w.heap.size w w2 := bstep hBA hb
  clear hBA hb hx hy
  go_wp2_with fail
  go_ret
  exact ⟨rfl, hB⟩
end Go.Proofs.YthgfldabeaepaaaGreatDoor
