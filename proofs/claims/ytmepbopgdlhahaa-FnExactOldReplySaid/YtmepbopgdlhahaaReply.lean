/- What OldReply and PickBytes return, in the program and in the reference. No condition. -/
import Derived.Test.YtmepbopgdlhahaaHelp
namespace Go.Proofs.Ytmepbopgdlhahaa
open Go.RowKit

def replyInts (b : Bool) : List Int := [0, if b then 90 else 91, 0, 0, 0, 0, 0, 0]
theorem oldReply_spec (b : Bool) (w : World) : Calls Try.prog 17 #[.bool b] w fun e w' => ∃ A c, e = .returned (.slice A 8 c) ∧ w'.ownsRow w.heap.size 3 1 (.slice A 8 c) 8 (ints (replyInts b)) ∧ Below w.heap.size w w' := by
  cases b
  all_goals
    go_enter Try.func17, Try.ntmps17
    go_wp2
    go_ret
    exact ⟨_, _, rfl, World.ownsRow_lit _ _ 8 (Nat.le_refl _) (by decide) rfl, by go_grown⟩
theorem oldReply_impl (b : Bool) (w : World) : Calls Try.prog 18 #[.bool b] w fun e w' => ∃ A c, e = .returned (.slice A 8 c) ∧ w'.ownsRow w.heap.size 3 1 (.slice A 8 c) 8 (ints (replyInts b)) ∧ Below w.heap.size w w' := by
  cases b
  all_goals
    go_enter Try.func18, Try.ntmps18
    go_wp2
    go_ret
    exact ⟨_, _, rfl, World.ownsRow_lit _ _ 8 (Nat.le_refl _) (by decide) rfl, by go_grown⟩
end Go.Proofs.Ytmepbopgdlhahaa
