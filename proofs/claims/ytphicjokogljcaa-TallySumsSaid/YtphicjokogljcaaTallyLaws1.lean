/-
  The walks of the law package's works and of the laws TallyPairs and TallyFull.
-/
import Derived.Test.YtphicjokogljcaaTally3
import Derived.Test.YtphicjokogljcaaAmong
namespace Go.Proofs.Ytphicjokogljcaa
open Go.RowKit

theorem below_grown {B : Nat} {a w w' : World} {g : Nat} (h : Below B a w) (hg : w.grownBy w' (some g)) (hB : B ≤ a.heap.size) (hgB : B ≤ g) : Below B a w' :=
  h.grown hg (Nat.le_trans hB h.size) (fun k hk => by injection hk with hk; omega)

theorem tworks_any (w : World) : Calls Try.prog 8 #[] w fun e w' => e = .returned (.bool true) ∧ Below w.heap.size w w' := by
  have k1 : addE 2 (addF 2 (fun _ => (0, 0)) 0 2 3 1) 0 2 1 0 = 0 := by decide
  have k2 : getIn 2 (addF 2 (addF 2 (fun _ => (0, 0)) 0 2 3 1) 0 2 1 0) 0 2 = (4, 1) := by decide
  have K1 := Lib.hid k1
  have K2 := Lib.hid k2
  clear k1 k2
  go_enter Try.func8, Try.ntmps8
  go_wp2_with fail
  refine (new_any 2 _ (by omega) (by omega)).mono ?_
  rintro e w1 ⟨rfl, ht, hb⟩
  go_wp2_with fail
  refine (tadd_any w.heap.size 2 0 2 3 1 _ _ ht).mono ?_
  rintro e w2 ⟨rfl, ht2, hg⟩
  replace hb := below_grown hb hg (Nat.le_refl _) (Nat.le_refl _)
  clear ht hg
  go_wp2_with fail
  refine (tadd_any w.heap.size 2 0 2 1 0 _ _ ht2).mono ?_
  rintro e w3 ⟨he, ht3, hg⟩
  rw [K1.out] at he
  subst he
  replace hb := below_grown hb hg (Nat.le_refl _) (Nat.le_refl _)
  clear ht2 hg
  go_wp2_with fail
  refine (tget_any w.heap.size 2 0 2 _ _ ht3).mono ?_
  rw [K2.out]
  rintro e w4 ⟨rfl, rfl⟩
  go_wp2_with fail
  go_ret
  exact ⟨rfl, hb⟩

theorem pair_int (a b : Int) (ha : 0 ≤ a) (hb : 0 ≤ b) (w : World) :
    Calls Try.prog 10 #[.int .i64 a, .int .i64 b] w fun e w' => e = .returned (.complex .f64 (fl a.toNat) (fl b.toNat)) ∧ w = w' := by
  obtain ⟨a, rfl⟩ := Int.eq_ofNat_of_zero_le ha
  obtain ⟨b, rfl⟩ := Int.eq_ofNat_of_zero_le hb
  exact pair_any a b w

theorem csum_half (a b : Nat) (h : a < 4503599627370496) (hb : b < 9007199254740992) : cSumBits .add .f64 (fl a) (fl b) 4602678819172646912 0 = some (half a, fl b) := by
  unfold cSumBits floatBits
  simp only [format_f64]
  have := add_fl b 0 (by omega)
  rw [fl_zero, Nat.add_zero] at this
  rw [add_half a h, this]
  rfl

set_option maxHeartbeats 2000000 in
set_option maxRecDepth 100000 in
theorem tallyPairs_walk (a0 b0 c0 d0 : Int) (w : World) :
    Calls Try.prog 3 #[.int .i64 a0, .int .i64 b0, .int .i64 c0, .int .i64 d0] w fun e w' => e = .returned (.bool true) ∧ Below w.heap.size w w' := by
  go_enter Try.func3, Try.ntmps3
  go_wp2_with fail
  refine (tworks_any _).mono ?_
  rintro e w1 ⟨rfl, hb⟩
  go_wp2_with fail
  refine (among_any _ _ _ (by omega) (by omega)).mono ?_
  have ha := among_bd a0 4503599627370496 (by omega)
  generalize among a0 4503599627370496 = a at *
  rintro e w' ⟨rfl, rfl⟩
  go_wp2_with fail
  refine (among_any _ _ _ (by omega) (by omega)).mono ?_
  have hB := among_bd b0 4503599627370496 (by omega)
  generalize among b0 4503599627370496 = b at *
  rintro e w' ⟨rfl, rfl⟩
  go_wp2_with fail
  refine (among_any _ _ _ (by omega) (by omega)).mono ?_
  have hc := among_bd c0 4503599627370496 (by omega)
  generalize among c0 4503599627370496 = c at *
  rintro e w' ⟨rfl, rfl⟩
  go_wp2_with fail
  refine (among_any _ _ _ (by omega) (by omega)).mono ?_
  have hd := among_bd d0 4503599627370496 (by omega)
  generalize among d0 4503599627370496 = d at *
  rintro e w' ⟨rfl, rfl⟩
  have CS := fun W : World => run_complex_sum (P := Try.prog) W .add (.inl rfl) 24 .f64 _ _ _ _ _ _ (csum a.toNat b.toNat c.toNat d.toNat (by omega) (by omega))
  have CH := fun W : World => run_complex_sum (P := Try.prog) W .add (.inl rfl) 24 .f64 _ _ _ _ _ _ (csum_half a.toNat b.toNat (by omega) (by omega))
  have q1 := order_self a.toNat (by omega)
  have q2 := order_self b.toNat (by omega)
  have e1 : floatOfInt .f64 a = fl a.toNat := by rw [← floatOfInt_nat, Int.toNat_of_nonneg ha.1]
  have e2 : floatOfInt .f64 b = fl b.toNat := by rw [← floatOfInt_nat, Int.toNat_of_nonneg hB.1]
  have HA := Lib.hid ha
  have HB := Lib.hid hB
  have HC := Lib.hid hc
  have HD := Lib.hid hd
  clear ha hB hc hd
  go_wp2_with fail
  refine (pair_int a b HA.out.1 HB.out.1 _).mono ?_
  rintro e w' ⟨rfl, rfl⟩
  go_wp2_with fail
  refine (pair_int c d HC.out.1 HD.out.1 _).mono ?_
  rintro e w' ⟨rfl, rfl⟩
  go_wp2_with fail
  refine (parts_fl a.toNat b.toNat (by have := HA.out; omega) (by have := HB.out; omega) _).mono ?_
  rw [Int.toNat_of_nonneg HA.out.1, Int.toNat_of_nonneg HB.out.1]
  rintro e w' ⟨rfl, rfl⟩
  go_wp2_with fail
  refine (parts_fl _ _ (by have := HA.out; have := HC.out; omega) (by have := HB.out; have := HD.out; omega) _).mono ?_
  rw [show ((a.toNat + c.toNat : Nat) : Int) = a + c by have := HA.out; have := HC.out; omega, show ((b.toNat + d.toNat : Nat) : Int) = b + d by have := HB.out; have := HD.out; omega]
  rintro e w' ⟨rfl, rfl⟩
  go_wp2_with fail
  refine (parts_half a.toNat b.toNat (by have := HA.out; omega) (by have := HB.out; omega) _).mono ?_
  rintro e w' ⟨rfl, rfl⟩
  go_wp2_with fail
  refine (parts_neg _).mono ?_
  rintro e w' ⟨rfl, rfl⟩
  have w1' : wrap64 (a + c) = a + c := IntWalk.wrap64_in _ (by have := HA.out; have := HC.out; omega)
  have w2' : wrap64 (b + d) = b + d := IntWalk.wrap64_in _ (by have := HB.out; have := HD.out; omega)
  go_wp2_with fail
  all_goals
    go_ret
    exact ⟨rfl, hb⟩
end Go.Proofs.Ytphicjokogljcaa
