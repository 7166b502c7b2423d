/-
  The walks of sum.Fold and Of.
-/
import Derived.Test.YtpdkoooecnmjjaaAdd
namespace Go.Proofs.Ytpdkoooecnmjjaa
open Go.RowKit

theorem ones_xor (x : Nat) (h : x ≤ 65535) : 65535 ^^^ x = 65535 - x := by
  have e : (BitVec.allOnes 16 ^^^ BitVec.ofNat 16 x).toNat = 65535 - x := by
    rw [BitVec.allOnes_xor, BitVec.toNat_not, BitVec.toNat_ofNat]
    omega
  rw [BitVec.toNat_xor, BitVec.toNat_allOnes, BitVec.toNat_ofNat, Nat.mod_eq_of_lt (by omega)] at e
  exact e
theorem u16_not (x : Nat) (h : x ≤ 65535) : bits .xor .u16 IntKind.u16.max (x : Int) = ((65535 - x : Nat) : Int) := by
  have := u16_xor_nat 65535 x (by omega) (by omega)
  rw [ones_xor x h] at this
  exact this

theorem fold_any (p : Int) (h0 : 0 ≤ p) (h1 : p < 4294967296) (w : World) :
    Calls Try.prog 36 #[.int .u32 p] w fun e w' => e = .returned (.int .u16 (65535 - rnd p.toNat : Nat)) ∧ w = w' := by
  have hr := rnd_le p.toNat
  go_enter Try.func36, Try.ntmps36
  go_wp2_with (go_at_call 38; refine (round_any _ (by omega) (by omega) _).mono ?_; rintro e w' ⟨rfl, rfl⟩)
  go_ret
  exact ⟨ret_int (u16_not _ hr), rfl⟩

theorem of_any (A : Option Addr) (bs : List UInt8) (c : Nat) (w : World) (hb : Bs w A bs) (hl : bs.length ≤ 9223372036854775807) :
    Calls Try.prog 35 #[.slice A bs.length c] w fun e w' => e = .returned (.int .u16 (65535 - rnd (words bs) : Nat)) ∧ Drawn w w' := by
  have hr := rnd_le (words bs)
  go_enter Try.func35, Try.ntmps35
  go_wp2_with fail
  refine (add_any _ (by omega) (by omega) A bs c _ hb hl).mono ?_
  rintro e w' ⟨rfl, hd⟩
  go_wp2_with fail
  refine (fold_any _ (by omega) (by omega) _).mono ?_
  rintro e w' ⟨rfl, rfl⟩
  go_wp2_with fail
  go_ret
  refine ⟨ret_int ?_, hd⟩
  rw [rnd_small hr]

theorem int_beq (a b : Nat) : ((a : Int) == (b : Int)) = (a == b) := by rw [Bool.eq_iff_iff]; simp; omega

end Go.Proofs.Ytpdkoooecnmjjaa
