/- What OldReply and PickBytes return, in the program and in the reference. No condition. -/
import Derived.Test.YtmepbopgdlhahaaHelp
namespace Go.Proofs.Ytmepbopgdlhahaa
open Go.RowKit

/-- What a server says of a method. -/
def pickB (a : Int) : List Int × Bool := if inR a 0 255 then ([5, a], true) else ([], false)
theorem pickB_length {a : Int} {zs : List Int} {b : Bool} (h : pickB a = (zs, b)) : zs.length ≤ 2 := by
  unfold pickB at h
  cases hi : inR a 0 255 <;> (rw [hi] at h; injection h with h1 _; rw [← h1]; simp)
def replyInts (b : Bool) : List Int := [0, if b then 90 else 91, 0, 0, 0, 0, 0, 0]
theorem oldReply_spec (b : Bool) (w : World) : Calls Try.prog 17 #[.bool b] w fun e w' => ∃ A c, e = .returned (.slice A 8 c) ∧ w'.ownsRow w.heap.size 3 1 (.slice A 8 c) 8 (ints (replyInts b)) ∧ Below w.heap.size w w' := by
  cases b
  all_goals
    go_enter Try.func17, Try.ntmps17
    go_wp2
    go_ret
    exact ⟨_, _, rfl, World.ownsRow_lit _ _ 8 (Nat.le_refl _) (by decide) rfl, by go_grown⟩
theorem oldReply_impl (b : Bool) (w : World) : Calls Try.prog 18 #[.bool b] w fun e w' => ∃ A c, e = .returned (.slice A 8 c) ∧ w'.ownsRow w.heap.size 3 1 (.slice A 8 c) 8 (ints (replyInts b)) ∧ Below w.heap.size w w' := by
  cases b
  all_goals
    go_enter Try.func18, Try.ntmps18
    go_wp2
    go_ret
    exact ⟨_, _, rfl, World.ownsRow_lit _ _ 8 (Nat.le_refl _) (by decide) rfl, by go_grown⟩

theorem pickBytes_spec (a : Int) (w : World) (zs : List Int) (b : Bool) (h : pickB a = (zs, b)) : Calls Try.prog 22 #[.int .i64 a] w (RetIB w zs b) := by
  unfold pickB at h
  cases hi : inR a 0 255 with
  | true =>
    rw [hi] at h
    injection h with h2 h3
    subst h2 h3
    replace hi := Lib.hid hi
    go_enter Try.func22, Try.ntmps22
    go_wp2_with (go_at_call 40; refine (l6In_any _ _ _ _ _ hi.out).mono ?_; rintro e w' ⟨rfl, rfl⟩)
    go_ret2
    exact ⟨_, 2, _, rfl, World.ownsRow_lit _ _ 2 (Nat.le_refl _) (by decide) rfl, by go_grown⟩
  | false =>
    rw [hi] at h
    injection h with h2 h3
    subst h2 h3
    replace hi := Lib.hid hi
    go_enter Try.func22, Try.ntmps22
    go_wp2_with (go_at_call 40; refine (l6In_any _ _ _ _ _ hi.out).mono ?_; rintro e w' ⟨rfl, rfl⟩)
    go_ret2
    exact ⟨_, 0, _, rfl, own_empty _, by go_grown⟩
theorem pickBytes_impl (a : Int) (w : World) (zs : List Int) (b : Bool) (h : pickB a = (zs, b)) : Calls Try.prog 23 #[.int .i64 a] w (RetIB w zs b) := by
  unfold pickB at h
  cases hi : inR a 0 255 with
  | true =>
    rw [hi] at h
    injection h with h2 h3
    subst h2 h3
    replace hi := Lib.hid hi
    go_enter Try.func23, Try.ntmps23
    go_wp2_with (go_at_call 41; refine (within_any _ _ _ _ _ hi.out).mono ?_; rintro e w' ⟨rfl, rfl⟩)
    go_ret2
    exact ⟨_, 2, _, rfl, World.ownsRow_lit _ _ 2 (Nat.le_refl _) (by decide) rfl, by go_grown⟩
  | false =>
    rw [hi] at h
    injection h with h2 h3
    subst h2 h3
    replace hi := Lib.hid hi
    go_enter Try.func23, Try.ntmps23
    go_wp2_with (go_at_call 41; refine (within_any _ _ _ _ _ hi.out).mono ?_; rintro e w' ⟨rfl, rfl⟩)
    go_ret2
    exact ⟨_, 0, _, rfl, own_nil2 _, by go_grown⟩
end Go.Proofs.Ytmepbopgdlhahaa
