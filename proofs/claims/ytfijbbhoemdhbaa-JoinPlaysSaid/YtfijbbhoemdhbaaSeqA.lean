/-
  The walks of seq.Add and Way.
-/
import Derived.Test.YtfijbbhoemdhbaaProg
import Derived.Test.YtfijbbhoemdhbaaPlainSeq
import Derived.WalkKit
import Derived.WalkLawsBesides
import Derived.WalkSpells
import Derived.WalkMore
import Derived.ScopeJumps
import Derived.Below
import Derived.Outline
import Derived.Handy
import Derived.Lib.Hide
namespace Go.Proofs.Ytfijbbhoemdhbaa
open Go.RowKit

theorem rint {k : IntKind} {a b : Int} (h : a = b) : Ending.returned (.int k a) = .returned (.int k b) := by rw [h]
theorem rbool {a b : Bool} (h : a = b) : Ending.returned (.bool a) = .returned (.bool b) := by rw [h]

theorem sadd_any (a n : Int) (w : World) (_h0 : 0 ≤ a) (_h1 : a < 4294967296) :
    Calls Try.prog 25 #[.int .u32 a, .int .i64 n] w fun e w' => e = .returned (.int .u32 (addw a n)) ∧ w = w' := by
  go_enter Try.func25, Try.ntmps25
  go_wp2
  go_ret
  exact ⟨rint (by unfold addw; omega), rfl⟩

theorem way_any (a b : Int) (w : World) :
    Calls Try.prog 24 #[.int .u32 a, .int .u32 b] w fun e w' => e = .returned (.int .u32 (way a b)) ∧ w = w' := by
  go_enter Try.func24, Try.ntmps24
  go_wp2
  go_ret
  exact ⟨rint (by unfold way; omega), rfl⟩

end Go.Proofs.Ytfijbbhoemdhbaa
