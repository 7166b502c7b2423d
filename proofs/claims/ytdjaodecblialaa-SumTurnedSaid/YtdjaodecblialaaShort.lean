/-
  The walks of the law package's short and works.
-/
import Derived.Test.YtdjaodecblialaaSumFns
namespace Go.Proofs.Ytdjaodecblialaa
open Go.RowKit

set_option maxRecDepth 100000 in
theorem short_any (A : Option Addr) (bs : List UInt8) (c : Nat) (w : World) (hs : Sl w A c bs) :
    Calls Try.prog 12 #[.slice A bs.length c] w (Made (bs.take 600) w) := by
  have h1 := hs.2.1
  have h2 := hs.2.2.1
  have hl : (bs.take 600).length ≤ 600 := by rw [List.length_take]; omega
  have hs' := hs.take 600
  have hz : 600 < bs.length ∧ (bs.take 600).length = 600 ∨ bs.length ≤ 600 ∧ (bs.take 600).length = bs.length := by rw [List.length_take]; omega
  clear hs
  generalize bs.take 600 = t at *
  rcases hz with ⟨hlt, hz⟩ | ⟨hz, hz'⟩
  · have HZ := Lib.hid hz
    clear hz
    go_enter Try.func12, Try.ntmps12
    go_wp2_with fail
    refine (bytes_n A t 600 c _ HZ.out hs' (by omega)).mono ?_
    rintro e w' ⟨A', c', rfl, ho, hb⟩
    go_wp2_with fail
    go_ret
    exact ⟨A', c', rfl, ho, hb⟩
  · have HZ := Lib.hid hz'
    clear hz'
    go_enter Try.func12, Try.ntmps12
    go_wp2_with fail
    refine (bytes_n A t _ c _ HZ.out hs' (by omega)).mono ?_
    rintro e w' ⟨A', c', rfl, ho, hb⟩
    go_wp2_with fail
    go_ret
    exact ⟨A', c', rfl, ho, hb⟩

theorem works_any (w : World) : Calls Try.prog 11 #[] w fun e w' => e = .returned (.bool true) ∧ Below w.heap.size w w' := by
  go_enter Try.func11, Try.ntmps11
  go_wp2_with fail
  refine (of_any _ [0, 1, 242, 3, 244, 245, 246, 247] 8 _ (bs_lit w [0, 1, 242, 3, 244, 245, 246, 247]) (by decide)).mono ?_
  rintro e w' ⟨rfl, hd⟩
  go_wp2_with fail
  go_ret
  exact ⟨rfl, ((Below.refl _ _).alloc (Nat.le_refl _) _).trans (hd.below _)⟩
end Go.Proofs.Ytdjaodecblialaa
