/- Plain laws of numbers as bytes and back. No condition. -/
import Derived.Test.YtfhadfcdfeancaaPlain
namespace Go.Proofs.Ytfhadfcdfeancaa

theorem numO_nb {k : Nat} {x : Int} (hk : 1 ≤ k ∧ k ≤ 4) (h0 : 0 ≤ x) (hp : x < 256 ^ k) : numO (nb x k) = (x, true) := by
  unfold numO
  rw [if_pos, numOf_nb k x h0 hp]
  rw [nb_length, bv_true.2 ⟨by rw [nb_length]; omega, nb_bytes k x⟩]
  simp
  omega
end Go.Proofs.Ytfhadfcdfeancaa
