/-
  For seats whose translation holds no base.Among: the imports alone.
-/
import Derived.Test.YthchjfkbaocoiaaProg
import Derived.WalkKit
import Derived.WalkLawsBesides
import Derived.WalkSpells
import Derived.Below
import Derived.Handy
namespace Go.Proofs.Ythchjfkbaocoiaa
open Go.RowKit

theorem ret_int' {k : IntKind} {a b : Int} (h : a = b) : Ending.returned (.int k a) = .returned (.int k b) := by rw [h]
end Go.Proofs.Ythchjfkbaocoiaa
