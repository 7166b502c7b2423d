/-
  The walks of sum.Turn.
-/
import Derived.Test.YtdjaodecblialaaSumFns
namespace Go.Proofs.Ytdjaodecblialaa
open Go.RowKit

theorem u16_notI (s : Int) (h0 : 0 ≤ s) (h1 : s < 65536) : bits .xor .u16 IntKind.u16.max s = 65535 - s := by
  obtain ⟨n, rfl⟩ := Int.eq_ofNat_of_zero_le h0
  rw [u16_not n (by omega)]
  omega

theorem turn_any (s was now : Int) (h0 : 0 ≤ s) (h1 : s < 65536) (h2 : 0 ≤ was) (h3 : was < 65536) (h4 : 0 ≤ now) (h5 : now < 65536) (w : World) :
    Calls Try.prog 23 #[.int .u16 s, .int .u16 was, .int .u16 now] w fun e w' => e = .returned (.int .u16 (65535 - rnd ((65535 - s.toNat) + (65535 - was.toNat) + now.toNat) : Nat)) ∧ w = w' := by
  have e1 := u16_notI s h0 h1
  have e2 := u16_notI was h2 h3
  go_enter Try.func23, Try.ntmps23
  go_wp2_with fail
  refine (fold_any _ (by omega) (by omega) _).mono ?_
  rintro e w' ⟨rfl, rfl⟩
  go_wp2_with fail
  go_ret
  exact ⟨ret_int (by rw [show ((65535 - s + (65535 - was) + now) % 4294967296).toNat = (65535 - s.toNat) + (65535 - was.toNat) + now.toNat by omega]), rfl⟩
end Go.Proofs.Ytdjaodecblialaa
