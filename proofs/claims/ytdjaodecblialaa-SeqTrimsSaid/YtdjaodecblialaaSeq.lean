/-
  The walks of package seq.
-/
import Derived.Test.YtdjaodecblialaaProg
import Derived.Test.YtdjaodecblialaaPlainSeq
import Derived.WalkKit
import Derived.WalkLawsBesides
import Derived.WalkSpells
import Derived.WalkMore
import Derived.ScopeJumps
import Derived.Below
import Derived.Outline
import Derived.Handy
import Derived.Lib.Hide
namespace Go.Proofs.Ytdjaodecblialaa
open Go.RowKit

theorem rint {k : IntKind} {a b : Int} (h : a = b) : Ending.returned (.int k a) = .returned (.int k b) := by rw [h]
theorem rbool {a b : Bool} (h : a = b) : Ending.returned (.bool a) = .returned (.bool b) := by rw [h]

theorem sadd_any (a n : Int) (w : World) (_h0 : 0 ≤ a) (_h1 : a < 4294967296) :
    Calls Try.prog 29 #[.int .u32 a, .int .i64 n] w fun e w' => e = .returned (.int .u32 (addw a n)) ∧ w = w' := by
  go_enter Try.func29, Try.ntmps29
  go_wp2
  go_ret
  exact ⟨rint (by unfold addw; omega), rfl⟩

theorem way_any (a b : Int) (w : World) :
    Calls Try.prog 32 #[.int .u32 a, .int .u32 b] w fun e w' => e = .returned (.int .u32 (way a b)) ∧ w = w' := by
  go_enter Try.func32, Try.ntmps32
  go_wp2
  go_ret
  exact ⟨rint (by unfold way; omega), rfl⟩

theorem ahead_any (a b : Int) (w : World) :
    Calls Try.prog 34 #[.int .u32 a, .int .u32 b] w fun e w' => e = .returned (.bool (ahead a b)) ∧ w = w' := by
  have hb := way_bd a b
  go_enter Try.func34, Try.ntmps34
  go_wp2_with (go_at_call 32; refine (way_any _ _ _).mono ?_; rintro e w' ⟨rfl, rfl⟩)
  go_ret
  exact ⟨rbool (by unfold ahead; rw [decide_eq_decide]; omega), rfl⟩

theorem least_any (a b : Int) (w : World) :
    Calls Try.prog 36 #[.int .u32 a, .int .u32 b] w fun e w' => e = .returned (.int .u32 (least a b)) ∧ w = w' := by
  cases hh : ahead b a
  all_goals
    have hl : least a b = if ahead b a = true then b else a := rfl
    rw [hh] at hl
    have HL := Lib.hid hl
    have HH := Lib.hid hh
    clear hl hh
    go_enter Try.func36, Try.ntmps36
    go_wp2_with fail
    refine (ahead_any _ _ _).mono ?_
    rw [HH.out]
    rintro e w' ⟨rfl, rfl⟩
    go_wp2
    go_ret
    exact ⟨rint (by rw [HL.out]; simp), rfl⟩

theorem within_any (a f size : Int) (w : World) (h0 : -9223372036854775808 ≤ size) (h1 : size ≤ 9223372036854775807) :
    Calls Try.prog 30 #[.int .u32 a, .int .u32 f, .int .i64 size] w fun e w' => e = .returned (.bool (within a f size)) ∧ w = w' := by
  have hb := way_bd f a
  rcases Int.lt_or_le size 0 with h | h
  · go_enter Try.func30, Try.ntmps30
    go_wp2
    go_ret
    exact ⟨rbool (by unfold within; simp; omega), rfl⟩
  · rcases Int.lt_or_le 65535 size with h' | h'
    · go_enter Try.func30, Try.ntmps30
      go_wp2
      go_ret
      exact ⟨rbool (by unfold within; simp; omega), rfl⟩
    · go_enter Try.func30, Try.ntmps30
      go_wp2
      go_ret
      exact ⟨rbool (by unfold within way; rw [decide_eq_decide]; omega), rfl⟩

theorem sure_any (u n a : Int) (w : World) :
    Calls Try.prog 39 #[.int .u32 u, .int .u32 n, .int .u32 a] w fun e w' => e = .returned (.bool (sure u n a)) ∧ w = w' := by
  have hb := way_bd u a
  have hd := way_bd u n
  have hz : sure u n a = decide (1 ≤ way u a ∧ way u a ≤ way u n) := rfl
  have HZ := Lib.hid hz
  clear hz
  by_cases h : way u a = 0
  · have HW := Lib.hid h
    have h0 : (way u a != 0) = false := by simp [h]
    clear h
    go_enter Try.func39, Try.ntmps39
    go_wp2_with (go_at_call 32; refine (way_any _ _ _).mono ?_; rintro e w' ⟨rfl, rfl⟩)
    go_ret
    exact ⟨rbool (by rw [HZ.out, HW.out]; simp), rfl⟩
  · have h0 : (way u a != 0) = true := by simp [h]
    go_enter Try.func39, Try.ntmps39
    go_wp2_with (go_at_call 32; refine (way_any _ _ _).mono ?_; rintro e w' ⟨rfl, rfl⟩)
    go_ret
    exact ⟨rbool (by rw [HZ.out, decide_eq_decide]; omega), rfl⟩
end Go.Proofs.Ytdjaodecblialaa
