/-
  base.Among: a number as one from 0 to n - 1.
-/
import Derived.Test.YtpdkoooecnmjjaaProg
import Derived.WalkKit
import Derived.WalkLawsBesides
import Derived.WalkSpells
import Derived.Below
import Derived.Handy
namespace Go.Proofs.Ytpdkoooecnmjjaa
open Go.RowKit

theorem ret_int' {k : IntKind} {a b : Int} (h : a = b) : Ending.returned (.int k a) = .returned (.int k b) := by rw [h]
/-- A number as one from 0 to n - 1. -/
def among (x n : Int) : Int := (x % 18446744073709551616) % n
theorem among_bd (x n : Int) (h : 1 ≤ n) : 0 ≤ among x n ∧ among x n < n := ⟨Int.emod_nonneg _ (by omega), Int.emod_lt_of_pos _ (by omega)⟩

theorem among_any (x n : Int) (w : World) (h0 : 1 ≤ n) (h1 : n ≤ 9223372036854775807) :
    Calls Try.prog 6 #[.int .i64 x, .int .i64 n] w fun e w' => e = .returned (.int .i64 (among x n)) ∧ w = w' := by
  go_enter Try.func6, Try.ntmps6
  go_wp2
  go_ret
  refine ⟨ret_int' ?_, rfl⟩
  have hb := among_bd x n h0
  have e1 : IntKind.u64.wrap x = x % 18446744073709551616 := by simp [IntKind.wrap, IntKind.bits, IntKind.signed]
  show wrap64 ((IntKind.u64.wrap x).tmod n) = _
  rw [e1, Int.tmod_eq_emod_of_nonneg (by omega)]
  exact IntWalk.wrap64_in _ (by unfold among at hb; omega)
end Go.Proofs.Ytpdkoooecnmjjaa
