/- Marking an address's bytes and finding the marks. No condition. -/
import Derived.Test.YthgfldabeaepaaaDoorAd
import Derived.Test.YthgfldabeaepaaaDoorHelp
namespace Go.Proofs.YthgfldabeaepaaaDoor
open Go.RowKit
theorem markAddress_any (B : Nat) (a : Ad) (A : Option Addr) (n c : Nat) (m : Int) (w : World) (ho : w.ownsRow B 3 1 (.slice A n c) n (ints a.quad)) (hm : 0 ≤ m ∧ m + n ≤ 9223372036854775807) :
    Calls Tryd.prog 37 #[adVal a A n c, .int .i64 m] w fun e w' => e = .returned (.int .i64 (m + n)) ∧ w'.ownsRow B 3 1 (.slice A n c) n (ints (marks m n)) ∧ w.grownBy w' (Value.ownBlock (.slice A n c)) := by
  go_enter Tryd.func37, Tryd.ntmps37
  go_wp2_with fail
  refine (markIntS_any B A n c a.quad m _ (ho.alloc _) hm).mono ?_
  rintro e w2 ⟨rfl, ho2, hg2⟩
  go_wp2_with fail
  go_ret
  exact ⟨rfl, ho2, grown_trans (World.grownBy_alloc w _ _) hg2⟩
theorem heldAddress_any (a : Ad) (A : Option Addr) (n c : Nat) (m : Int) (w : World) (hx : Rd w A n (ints (marks m n))) (hm : 0 ≤ m ∧ m + n ≤ 9223372036854775807) :
    Calls Tryd.prog 38 #[adVal a A n c, .int .i64 m] w fun e w' => e = .returned (.int .i64 (m + n)) ∧ Below w.heap.size w w' := by
  have g : decide (m + (n : Int) < 0) = false := by simp; omega
  go_enter Tryd.func38, Tryd.ntmps38
  go_wp2_with fail
  refine (heldIntS_any A n c m _ (hx.alloc _) hm).mono ?_
  rintro e w2 ⟨rfl, hb⟩
  have hB : Below w.heap.size w w2 := bstep ((Below.refl _ _).alloc (Nat.le_refl _) _) hb
  clear hb hx
  go_wp2_with fail
  go_ret
  exact ⟨rfl, hB⟩
end Go.Proofs.YthgfldabeaepaaaDoor
