/-
  The walks of the reference's Add and Way of numbers that go round.
-/
import Derived.Test.YtfijbbhoemdhbaaSeqA
namespace Go.Proofs.Ytfijbbhoemdhbaa
open Go.RowKit

theorem rsadd_any (a n : Int) (w : World) (_h0 : 0 ≤ a) (_h1 : a < 4294967296) :
    Calls Try.prog 30 #[.int .u32 a, .int .i64 n] w fun e w' => e = .returned (.int .u32 (addw a n)) ∧ w = w' := by
  go_enter Try.func30, Try.ntmps30
  go_wp2
  go_ret
  exact ⟨rint (by unfold addw; simp only [IntKind.wrap_u64]; omega), rfl⟩

theorem rway_any (a b : Int) (w : World) (a0 : 0 ≤ a) (a1 : a < 4294967296) (b0 : 0 ≤ b) (b1 : b < 4294967296) :
    Calls Try.prog 29 #[.int .u32 a, .int .u32 b] w fun e w' => e = .returned (.int .u32 (way a b)) ∧ w = w' := by
  rcases Int.lt_or_le b a with h | h
  all_goals
    go_enter Try.func29, Try.ntmps29
    go_wp2
    go_ret
    exact ⟨rint (by unfold way; omega), rfl⟩
end Go.Proofs.Ytfijbbhoemdhbaa
