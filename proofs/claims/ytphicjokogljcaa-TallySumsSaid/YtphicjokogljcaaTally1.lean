/-
  The walks of tally.Pair, part, Parts.
-/
import Derived.Test.YtphicjokogljcaaProg
import Derived.Test.YtphicjokogljcaaFloat
import Derived.WalkKit
import Derived.WalkLawsBesides
import Derived.WalkSpells
import Derived.WalkMore
import Derived.ScopeJumps
import Derived.Below
import Derived.Outline
import Derived.Handy
import Derived.Lib.Hide
import Derived.Deep.Draws
import Derived.Laws.FloatArith
import Derived.Laws.ComplexArith
namespace Go.Proofs.Ytphicjokogljcaa
open Go.RowKit

theorem floatOfInt_nat (n : Nat) : floatOfInt .f64 (n : Int) = fl n := by
  unfold floatOfInt FloatKind.nearest FloatKind.encode
  rw [decide_eq_false (by omega), Int.natAbs_natCast]
  rfl

theorem pair_any (a b : Nat) (w : World) :
    Calls Try.prog 10 #[.int .i64 a, .int .i64 b] w fun e w' => e = .returned (.complex .f64 (fl a) (fl b)) ∧ w = w' := by
  have e1 := floatOfInt_nat a
  have e2 := floatOfInt_nat b
  go_enter Try.func10, Try.ntmps10
  go_wp2
  go_ret
  exact ⟨rfl, rfl⟩

theorem format_f64 : FloatKind.f64.format = Ieee.double := rfl
theorem cmp_nat (a : Nat) : compare a 0 = if a = 0 then .eq else .gt := by
  by_cases h : a = 0
  · subst h; rfl
  · rw [if_neg h, Nat.compare_eq_gt.2 (by omega)]

theorem order0 (n : Nat) (h : n < 9007199254740992) : FloatKind.f64.format.order (fl n) 0 = some .gt ∨ FloatKind.f64.format.order (fl n) 0 = some .eq := by
  have := order_fl n 0 h (by omega)
  rw [fl_zero] at this
  rw [format_f64, this, cmp_nat]
  split
  · exact .inr rfl
  · exact .inl rfl
theorem order_self (n : Nat) (h : n < 9007199254740992) : FloatKind.f64.format.order (fl n) (fl n) = some .eq := by rw [format_f64, order_fl n n h h]; simp

theorem val_of (b n : Nat) (h : n < 9007199254740992) (ht : Ieee.Datum.toInt .zero (Ieee.double.read b) = some (n : Int)) : floatToIntVal .f64 b .i64 = some (n : Int) := by
  unfold floatToIntVal FloatKind.decode
  rw [format_f64, ht]
  simp only
  rw [if_pos]
  simp only [IntKind.min, IntKind.max, IntKind.signed, IntKind.bits]
  omega
theorem val_fl (n : Nat) (h : n < 9007199254740992) : floatToIntVal .f64 (fl n) .i64 = some (n : Int) := val_of _ n h (toInt_fl n h)
theorem val_half (n : Nat) (h : n < 4503599627370496) : floatToIntVal .f64 (half n) .i64 = some (n : Int) := val_of _ n (Nat.lt_of_lt_of_le h (by decide)) (toInt_half n h)

theorem part_fl (n : Nat) (h : n < 9007199254740992) (w : World) :
    Calls Try.prog 22 #[.float .f64 (fl n)] w fun e w' => e = .returned (.tuple #[.int .i64 n, .bool true]) ∧ w = w' := by
  have g2 : FloatKind.f64.format.order (fl n) 4845873199050653696 = some .lt := order_whole n h
  have g3 := order_self n h
  have g4 := floatOfInt_nat n
  have g5 := fun W : World => run_convert_float_int (P := Try.prog) W 28 3 .f64 .i64 (fl n) n (by kernel_rfl) Try.underlying3 (val_fl n h)
  have g1 := order0 n h
  clear h
  rcases g1 with g1 | g1
  all_goals
    go_enter Try.func22, Try.ntmps22
    go_wp2
    go_ret2
    exact ⟨rfl, rfl⟩

theorem part_half (n : Nat) (h : n < 4503599627370496) (w : World) :
    Calls Try.prog 22 #[.float .f64 (half n)] w fun e w' => e = .returned (.tuple #[.int .i64 n, .bool false]) ∧ w = w' := by
  have g1 : FloatKind.f64.format.order (half n) 0 = some .gt := order_half0 n h
  have g2 : FloatKind.f64.format.order (half n) 4845873199050653696 = some .lt := order_half_whole n h
  have g3 : FloatKind.f64.format.order (fl n) (half n) = some .lt := order_half n h
  have g4 := floatOfInt_nat n
  have g5 := fun W : World => run_convert_float_int (P := Try.prog) W 28 3 .f64 .i64 (half n) n (by kernel_rfl) Try.underlying3 (val_half n h)
  clear h
  go_enter Try.func22, Try.ntmps22
  go_wp2
  go_ret2
  exact ⟨rfl, rfl⟩

theorem part_neg (w : World) :
    Calls Try.prog 22 #[.float .f64 13830554455654793216] w fun e w' => e = .returned (.tuple #[.int .i64 0, .bool false]) ∧ w = w' := by
  have g1 : FloatKind.f64.format.order 13830554455654793216 0 = some .lt := by decide
  go_enter Try.func22, Try.ntmps22
  go_wp2
  go_ret2
  exact ⟨rfl, rfl⟩

theorem parts_fl (a b : Nat) (ha : a < 9007199254740992) (hb : b < 9007199254740992) (w : World) :
    Calls Try.prog 11 #[.complex .f64 (fl a) (fl b)] w fun e w' => e = .returned (.tuple #[.int .i64 a, .int .i64 b]) ∧ w = w' := by
  have HA := Lib.hid ha
  have HB := Lib.hid hb
  clear ha hb
  go_enter Try.func11, Try.ntmps11
  go_wp2_with fail
  refine (part_fl a HA.out _).mono ?_
  rintro e w' ⟨rfl, rfl⟩
  go_wp2_with fail
  refine (part_fl b HB.out _).mono ?_
  rintro e w' ⟨rfl, rfl⟩
  go_wp2_with fail
  go_ret2
  exact ⟨rfl, rfl⟩

theorem parts_half (a b : Nat) (ha : a < 4503599627370496) (hb : b < 9007199254740992) (w : World) :
    Calls Try.prog 11 #[.complex .f64 (half a) (fl b)] w fun e w' => e = .returned (.tuple #[.int .i64 0, .int .i64 0]) ∧ w = w' := by
  have HA := Lib.hid ha
  have HB := Lib.hid hb
  clear ha hb
  go_enter Try.func11, Try.ntmps11
  go_wp2_with fail
  refine (part_half a HA.out _).mono ?_
  rintro e w' ⟨rfl, rfl⟩
  go_wp2_with fail
  refine (part_fl b HB.out _).mono ?_
  rintro e w' ⟨rfl, rfl⟩
  go_wp2_with fail
  go_ret2
  exact ⟨rfl, rfl⟩

theorem parts_neg (w : World) :
    Calls Try.prog 11 #[.complex .f64 13830554455654793216 0] w fun e w' => e = .returned (.tuple #[.int .i64 0, .int .i64 0]) ∧ w = w' := by
  have k := fl_zero
  have H := Lib.hid (part_fl 0 (by omega) w)
  rw [k] at H
  clear k
  go_enter Try.func11, Try.ntmps11
  go_wp2_with fail
  refine (part_neg _).mono ?_
  rintro e w' ⟨rfl, rfl⟩
  go_wp2_with fail
  refine H.out.mono ?_
  rintro e w' ⟨rfl, rfl⟩
  go_wp2_with fail
  go_ret2
  exact ⟨rfl, rfl⟩
end Go.Proofs.Ytphicjokogljcaa
