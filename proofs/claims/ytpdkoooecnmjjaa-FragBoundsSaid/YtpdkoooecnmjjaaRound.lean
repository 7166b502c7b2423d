/-
  The walks of sum.round: it carries what is above 16 bits round.
-/
import Derived.Test.YtpdkoooecnmjjaaProg
import Derived.Test.YtpdkoooecnmjjaaPlainSum
import Derived.WalkKit
import Derived.WalkLawsBesides
import Derived.WalkSpells
import Derived.WalkMore
import Derived.ScopeJumps
import Derived.Below
import Derived.Outline
import Derived.Handy
namespace Go.Proofs.Ytpdkoooecnmjjaa
open Go.RowKit

theorem nat_ones16 (n : Nat) : n &&& 65535 = n % 65536 := Nat.and_two_pow_sub_one_eq_mod n 16
theorem and_ones (n : Nat) (h : n < 4294967296) : bits .and .u32 (n : Int) 65535 = ((n % 65536 : Nat) : Int) := by
  have := u32_and_nat n 65535 h (by omega)
  rw [nat_ones16] at this
  exact this

theorem ret_int {k : IntKind} {a b : Int} (h : a = b) : Ending.returned (.int k a) = .returned (.int k b) := by rw [h]
theorem val_int {k : IntKind} {a b : Int} (h : a = b) : Value.int k a = .int k b := by rw [h]

def RoundAt (n : Nat) (w : World) (a' : Act) (w' : World) : Prop :=
  w = w' ∧ ∃ (m : Nat) (u3 u4 u5 u6 u7 u8 u9 u10 : Value), a' = { tmps := #[.int .u32 m, undef, .int .u32 0, u3, u4, u5, u6, u7, u8, u9, u10], defers := [] } ∧ rnd m = rnd n ∧ m < 4294967296
def slot0 (a : Act) (_ : World) : Nat := (intOf (a.tmps.getD 0 undef)).toNat

theorem round_step (n m : Nat) (hm : m < 4294967296) (hs : rnd m = rnd n) : rnd (m % 65536 + m / 65536) = rnd n ∧ m % 65536 + m / 65536 < 4294967296 := ⟨by rw [rnd_step, hs], by omega⟩

def once (n : Nat) : Nat := n % 65536 + n / 65536
theorem thrice (n : Nat) (h : n < 4294967296) : once (once (once n)) = rnd n := by
  have e : ∀ k, rnd (once k) = rnd k := rnd_step
  rw [← e n, ← e (once n), ← e (once (once n)), rnd_small]
  unfold once; omega

set_option maxRecDepth 100000 in
theorem round_nat (n : Nat) (h : n < 4294967296) (w : World) :
    Calls Try.prog 38 #[.int .u32 n] w fun e w' => e = .returned (.int .u32 (rnd n : Nat)) ∧ w = w' := by
  go_enter Try.func38, Try.ntmps38
  go_wp2
  refine wp_scope_jumps 0 (RoundAt n w) slot0 rfl ?_ ?_
  · have ha := and_ones n h
    go_wp2
    go_step3
    go_wp2
    · go_step3
      obtain ⟨h1, h2⟩ := round_step n n h rfl
      exact ⟨rfl, rfl, n % 65536 + n / 65536, _, _, _, _, _, _, _, _, rfl, h1, h2⟩
    · simp only [Exit.jump]
      go_ret
      exact ⟨ret_int (by rw [rnd_small (by omega)]), rfl⟩
  · rintro a' w' ⟨rfl, m, u3, u4, u5, u6, u7, u8, u9, u10, rfl, hs, hm⟩
    have ha := and_ones m hm
    go_wp2
    · go_step3
      obtain ⟨h1, h2⟩ := round_step n m hm hs
      refine ⟨rfl, ⟨rfl, m % 65536 + m / 65536, _, _, _, _, _, _, _, _, rfl, h1, h2⟩, ?_⟩
      simp [slot0, intOf]
      omega
    · simp only [Exit.jump]
      go_ret
      exact ⟨ret_int (by rw [← hs, rnd_small (by omega)]), rfl⟩

theorem round_any (n : Int) (h0 : 0 ≤ n) (h : n < 4294967296) (w : World) :
    Calls Try.prog 38 #[.int .u32 n] w fun e w' => e = .returned (.int .u32 (rnd n.toNat : Nat)) ∧ w = w' := by
  obtain ⟨n, rfl⟩ := Int.eq_ofNat_of_zero_le h0
  exact round_nat n (by omega) w

end Go.Proofs.Ytpdkoooecnmjjaa
