/-
  Plain mathematics of floats: whole numbers from 0 to 2^53 are exact, are added, held against each other and cut to integers as numbers are. No program in sight.
-/
import GoSem.Core.Float
namespace Go.Proofs.Ytphicjokogljcaa
open Ieee

/-- The word of s * 2^j. -/
def wd (s : Nat) (j : Int) : Nat := Ieee.double.nearest false s j

theorem log2_mul_pow (s k : Nat) (h : s ≠ 0) : (s * 2 ^ k).log2 = s.log2 + k := by
  induction k with
  | zero => simp
  | succ k ih =>
    rw [Nat.pow_succ, ← Nat.mul_assoc, Nat.mul_comm _ 2, Nat.log2_two_mul (by
      intro h0
      rcases Nat.mul_eq_zero.1 h0 with h1 | h1
      · exact h h1
      · exact absurd h1 (Nat.ne_of_gt (Nat.two_pow_pos k))), ih]
    omega

theorem cut_exact (m drop : Nat) (q : Nat) (h : m = q * 2 ^ drop) (hd : drop ≤ m.log2 + 2) (neg : Bool) : Toward.even.cut neg m drop = q := by
  unfold Toward.cut
  rw [Nat.min_eq_left hd, Nat.one_shiftLeft]
  have hp : 0 < 2 ^ drop := Nat.two_pow_pos drop
  have h1 : m / 2 ^ drop = q := by rw [h]; exact Nat.mul_div_cancel _ hp
  have h2 : m % 2 ^ drop = 0 := by rw [h]; exact Nat.mul_mod_left _ _
  simp only [h1, h2]
  have : ¬ (2 ^ drop < 2 * 0) := by omega
  have h3 : (2 ^ drop == 2 * 0) = false := by simp
  simp [h3]

/-- A significand of at most 53 digits is kept. -/
theorem wd_form (s : Nat) (j : Int) (h0 : s ≠ 0) (h1 : s.log2 ≤ 52) (hj : -1074 ≤ j + s.log2 - 52) (hi : j + s.log2 ≤ 1000) :
    wd s j = (j + s.log2 + 1022).toNat * 2 ^ 52 + s * 2 ^ (52 - s.log2) := by
  have hl : Ieee.double.leastPlace = -1074 := by decide
  have hf : Ieee.double.fractionBits = 52 := rfl
  have hb : Ieee.double.binade = 2 ^ 52 := rfl
  unfold wd Format.nearest
  rw [if_neg h0]
  simp only [hl, hf, hb]
  rw [Int.max_eq_left (by omega)]
  have e1 : (j - (j + ↑s.log2 - ↑(52 : Nat))).toNat = 52 - s.log2 := by omega
  have e2 : (j + ↑s.log2 - ↑(52 : Nat) - j).toNat = 0 := by omega
  rw [e1, e2, Nat.shiftLeft_eq, cut_exact (s * 2 ^ (52 - s.log2)) 0 (s * 2 ^ (52 - s.log2)) (by simp) (by omega)]
  have e3 : (j + ↑s.log2 - ↑(52 : Nat) - -1074).toNat = (j + s.log2 + 1022).toNat := by omega
  rw [e3]
  unfold Format.word
  rw [if_neg (by simp)]
  apply Nat.min_eq_left
  have hlt : s * 2 ^ (52 - s.log2) < 2 ^ 53 := by
    have h2 : s < 2 ^ (s.log2 + 1) := Nat.lt_log2_self
    calc s * 2 ^ (52 - s.log2) < 2 ^ (s.log2 + 1) * 2 ^ (52 - s.log2) := Nat.mul_lt_mul_of_pos_right h2 (Nat.two_pow_pos _)
      _ = 2 ^ 53 := by rw [← Nat.pow_add]; congr 1; omega
  have : Ieee.double.infRung = 2047 * 2 ^ 52 := by decide
  rw [this]
  omega

theorem wd_zero (j : Int) : wd 0 j = 0 := by simp [wd, Format.nearest, Format.word]

/-- The same number, written with more noughts. -/
theorem wd_scale (s k : Nat) (j : Int) (h1 : s.log2 ≤ 52) (hj : -1074 ≤ j + s.log2 - 52) (hi : j + s.log2 ≤ 1000) : wd (s * 2 ^ k) (j - k) = wd s j := by
  by_cases h0 : s = 0
  · subst h0; simp [wd_zero]
  rw [wd_form s j h0 h1 hj hi]
  have hs : s * 2 ^ k ≠ 0 := by
    intro h
    rcases Nat.mul_eq_zero.1 h with h | h
    · exact h0 h
    · exact absurd h (Nat.ne_of_gt (Nat.two_pow_pos k))
  have hlg := log2_mul_pow s k h0
  have hl : Ieee.double.leastPlace = -1074 := by decide
  have hf : Ieee.double.fractionBits = 52 := rfl
  have hb : Ieee.double.binade = 2 ^ 52 := rfl
  unfold wd Format.nearest
  rw [if_neg hs]
  simp only [hl, hf, hb, hlg]
  have e0 : max (j - ↑k + ↑(s.log2 + k) - ↑(52 : Nat)) (-1074) = j + s.log2 - 52 := by omega
  rw [e0]
  have hlt : s * 2 ^ (52 - s.log2) < 2 ^ 53 := by
    have h2 : s < 2 ^ (s.log2 + 1) := Nat.lt_log2_self
    calc s * 2 ^ (52 - s.log2) < 2 ^ (s.log2 + 1) * 2 ^ (52 - s.log2) := Nat.mul_lt_mul_of_pos_right h2 (Nat.two_pow_pos _)
      _ = 2 ^ 53 := by rw [← Nat.pow_add]; congr 1; omega
  have hc : Toward.even.cut false ((s * 2 ^ k) <<< (j - ↑k - (j + ↑s.log2 - 52)).toNat) (j + ↑s.log2 - 52 - (j - ↑k)).toNat = s * 2 ^ (52 - s.log2) := by
    rw [Nat.shiftLeft_eq]
    apply cut_exact
    · rw [Nat.mul_assoc, Nat.mul_assoc, ← Nat.pow_add, ← Nat.pow_add]
      congr 2
      omega
    · rw [Nat.mul_assoc, ← Nat.pow_add, log2_mul_pow _ _ h0]
      omega
  rw [hc]
  unfold Format.word
  rw [if_neg (by simp)]
  have e3 : (j + ↑s.log2 - 52 - -1074).toNat = (j + s.log2 + 1022).toNat := by omega
  rw [e3]
  apply Nat.min_eq_left
  have : Ieee.double.infRung = 2047 * 2 ^ 52 := by decide
  rw [this]
  omega

/-- What the word of a number reads as. -/
theorem read_wd (s : Nat) (j : Int) (h0 : s ≠ 0) (h1 : s.log2 ≤ 52) (hj : -1074 ≤ j + s.log2 - 52) (hi : j + s.log2 ≤ 1000) :
    Ieee.double.read (wd s j) = .number false (s * 2 ^ (52 - s.log2)) (j + s.log2 - 52) := by
  rw [wd_form s j h0 h1 hj hi]
  have h2 : 2 ^ 52 ≤ s * 2 ^ (52 - s.log2) := by
    have h3 : 2 ^ s.log2 ≤ s := Nat.log2_self_le h0
    calc 2 ^ 52 = 2 ^ s.log2 * 2 ^ (52 - s.log2) := by rw [← Nat.pow_add]; congr 1; omega
      _ ≤ s * 2 ^ (52 - s.log2) := Nat.mul_le_mul_right _ h3
  have hlt : s * 2 ^ (52 - s.log2) < 2 ^ 53 := by
    have h2 : s < 2 ^ (s.log2 + 1) := Nat.lt_log2_self
    calc s * 2 ^ (52 - s.log2) < 2 ^ (s.log2 + 1) * 2 ^ (52 - s.log2) := Nat.mul_lt_mul_of_pos_right h2 (Nat.two_pow_pos _)
      _ = 2 ^ 53 := by rw [← Nat.pow_add]; congr 1; omega
  generalize s * 2 ^ (52 - s.log2) = q at *
  have hl : Ieee.double.leastPlace = -1074 := by decide
  have hb : Ieee.double.binade = 4503599627370496 := by decide
  have hsw : Ieee.double.signWeight = 9223372036854775808 := by decide
  have hin : Ieee.double.infRung = 9218868437227405312 := by decide
  have he : ∃ e : Nat, (j + s.log2 + 1022).toNat = e ∧ e ≤ 2022 ∧ (e : Int) = j + s.log2 + 1022 := ⟨_, rfl, by omega, by omega⟩
  obtain ⟨e, he, hle, hE⟩ := he
  rw [he]
  unfold Format.read
  simp only [hl, hb, hsw, hin]
  have e1 : (e * 2 ^ 52 + q) % 9223372036854775808 = e * 4503599627370496 + q := by omega
  have e2 : (e * 2 ^ 52 + q) / 9223372036854775808 = 0 := by omega
  rw [e1, e2]
  rw [if_neg (by omega), if_pos (by omega)]
  have e3 : (e * 4503599627370496 + q) % 4503599627370496 = q - 4503599627370496 := by omega
  have e4 : (e * 4503599627370496 + q) / 4503599627370496 = e + 1 := by omega
  rw [e3, e4, show 4503599627370496 + (q - 4503599627370496) = q by omega]
  congr 1
  omega

theorem log2_le (n : Nat) (h : n < 9007199254740992) : n.log2 ≤ 52 := by
  by_cases h0 : n = 0
  · subst h0; decide
  · have := (Nat.log2_lt h0 (k := 53)).2 (by omega)
    omega

/-- The word of a whole number. -/
def fl (n : Nat) : Nat := wd n 0

theorem wd_fl (n k : Nat) (h : n < 9007199254740992) : wd (n * 2 ^ k) (-(k : Int)) = fl n := by
  have := wd_scale n k 0 (log2_le n h) (by omega) (by have := log2_le n h; omega)
  rw [Int.zero_sub] at this
  exact this

theorem read_fl (n : Nat) (h : n < 9007199254740992) : ∃ k : Nat, Ieee.double.read (fl n) = .number false (n * 2 ^ k) (-(k : Int)) := by
  by_cases h0 : n = 0
  · subst h0
    have key : ∀ K : Nat, K = 1074 → Ieee.double.read (fl 0) = .number false (0 * 2 ^ K) (-(K : Int)) := by
      intro K hK
      have : fl 0 = 0 := wd_zero 0
      rw [this, Nat.zero_mul, hK]
      decide
    exact ⟨_, key _ rfl⟩
  · refine ⟨52 - n.log2, ?_⟩
    have hl := log2_le n h
    unfold fl
    rw [read_wd n 0 h0 hl (by omega) (by omega)]
    congr 1
    omega

theorem shl (a k : Nat) : a <<< k = a * 2 ^ k := Nat.shiftLeft_eq a k

/-- Whole numbers are added. -/
theorem add_fl (a b : Nat) (h : a + b < 9007199254740992) : Ieee.double.add (fl a) (fl b) = some (fl (a + b)) := by
  obtain ⟨k, hk⟩ := read_fl a (by omega)
  obtain ⟨l, hl⟩ := read_fl b (by omega)
  unfold Format.add
  rw [hk, hl]
  simp only [Datum.sum, signed, Option.map_some, Bool.false_eq_true, if_false, shl]
  have e1 : (-(k : Int) - min (-(k : Int)) (-(l : Int))).toNat = max k l - k := by omega
  have e2 : (-(l : Int) - min (-(k : Int)) (-(l : Int))).toNat = max k l - l := by omega
  have e3 : min (-(k : Int)) (-(l : Int)) = -((max k l : Nat) : Int) := by omega
  rw [e1, e2, e3]
  have e4 : a * 2 ^ k * 2 ^ (max k l - k) = a * 2 ^ max k l := by rw [Nat.mul_assoc, ← Nat.pow_add]; congr 2; omega
  have e5 : b * 2 ^ l * 2 ^ (max k l - l) = b * 2 ^ max k l := by rw [Nat.mul_assoc, ← Nat.pow_add]; congr 2; omega
  rw [e4, e5]
  have e6 : ((a * 2 ^ max k l : Nat) : Int) + ((b * 2 ^ max k l : Nat) : Int) = (((a + b) * 2 ^ max k l : Nat) : Int) := by rw [Nat.add_mul]; omega
  rw [e6]
  have e7 : (if (((a + b) * 2 ^ max k l : Nat) : Int) = 0 then (false && false) else decide ((((a + b) * 2 ^ max k l : Nat) : Int) < 0)) = false := by
    generalize (a + b) * 2 ^ max k l = q
    split
    · rfl
    · exact decide_eq_false (by omega)
  rw [e7, Int.natAbs_natCast]
  show some (wd ((a + b) * 2 ^ max k l) _) = _
  rw [wd_fl _ _ h]

/-- .. and held against each other. -/
theorem order_num (a b k l : Nat) : Datum.order (.number false (a * 2 ^ k) (-(k : Int))) (.number false (b * 2 ^ l) (-(l : Int))) = some (compare a b) := by
  simp only [Datum.order, signed, Bool.false_eq_true, if_false, shl]
  have e1 : (-(k : Int) - min (-(k : Int)) (-(l : Int))).toNat = max k l - k := by omega
  have e2 : (-(l : Int) - min (-(k : Int)) (-(l : Int))).toNat = max k l - l := by omega
  rw [e1, e2]
  have e4 : a * 2 ^ k * 2 ^ (max k l - k) = a * 2 ^ max k l := by rw [Nat.mul_assoc, ← Nat.pow_add]; congr 2; omega
  have e5 : b * 2 ^ l * 2 ^ (max k l - l) = b * 2 ^ max k l := by rw [Nat.mul_assoc, ← Nat.pow_add]; congr 2; omega
  rw [e4, e5]
  congr 1
  have hp : 0 < 2 ^ max k l := Nat.two_pow_pos _
  generalize 2 ^ max k l = q at *
  rcases Nat.lt_trichotomy a b with h | h | h
  · rw [Nat.compare_eq_lt.2 h]
    have := Nat.mul_lt_mul_of_pos_right h hp
    show compareOfLessAndEq _ _ = _
    unfold compareOfLessAndEq
    rw [if_pos (by omega)]
  · subst h; simp
  · rw [Nat.compare_eq_gt.2 h]
    have := Nat.mul_lt_mul_of_pos_right h hp
    show compareOfLessAndEq _ _ = _
    unfold compareOfLessAndEq
    rw [if_neg (by omega), if_neg (by omega)]
theorem order_fl (a b : Nat) (ha : a < 9007199254740992) (hb : b < 9007199254740992) : Ieee.double.order (fl a) (fl b) = some (compare a b) := by
  obtain ⟨k, hk⟩ := read_fl a ha
  obtain ⟨l, hl⟩ := read_fl b hb
  unfold Format.order
  rw [hk, hl, order_num]

/-- Cut to an integer. -/
theorem cut_zero (m drop : Nat) (hd : drop ≤ m.log2 + 2) (neg : Bool) : Toward.zero.cut neg m drop = m / 2 ^ drop := by
  unfold Toward.cut
  rw [Nat.min_eq_left hd, Nat.one_shiftLeft]
  simp

theorem toInt_num (n k d : Nat) (hd : d ≤ k + 1) : Datum.toInt .zero (.number false (n * 2 ^ k) (-(d : Int))) = some ((n * 2 ^ k / 2 ^ d : Nat) : Int) := by
  unfold Datum.toInt Datum.integral
  have e1 : (-(d : Int)).toNat = 0 := by omega
  have e2 : (-(-(d : Int))).toNat = d := by omega
  simp only [e1, e2, shl, Nat.pow_zero, Nat.mul_one]
  by_cases h0 : n = 0
  · subst h0
    have : Toward.zero.cut false (0 * 2 ^ k) d = 0 := by unfold Toward.cut; simp
    rw [this]
    simp [signed]
  · rw [cut_zero _ _ (by rw [log2_mul_pow _ _ h0]; omega)]
    simp [signed, shl]
theorem toInt_fl (n : Nat) (h : n < 9007199254740992) : Datum.toInt .zero (Ieee.double.read (fl n)) = some (n : Int) := by
  obtain ⟨k, hk⟩ := read_fl n h
  rw [hk, toInt_num n k k (by omega), Nat.mul_div_cancel _ (Nat.two_pow_pos k)]

/-- The greatest whole number that is told, and nought, as words. -/
theorem read_whole : Ieee.double.read 4845873199050653696 = .number false 4503599627370496 1 := by decide
theorem read_zero : Ieee.double.read 0 = .number false 0 (-1074) := by decide

theorem fl_zero : fl 0 = 0 := wd_zero 0
theorem order_whole_num (n k d : Nat) (h : n * 2 ^ k < 9007199254740992 * 2 ^ d) : Datum.order (.number false (n * 2 ^ k) (-(d : Int))) (.number false 4503599627370496 1) = some .lt := by
  simp only [Datum.order, signed, Bool.false_eq_true, if_false, shl]
  have e1 : (-(d : Int) - min (-(d : Int)) 1).toNat = 0 := by omega
  have e2 : (1 - min (-(d : Int)) 1).toNat = d + 1 := by omega
  rw [e1, e2, Nat.pow_zero, Nat.mul_one, Nat.pow_succ]
  congr 1
  show compareOfLessAndEq _ _ = _
  unfold compareOfLessAndEq
  rw [if_pos]
  generalize n * 2 ^ k = x at *
  generalize 2 ^ d = y at *
  omega
theorem order_whole (n : Nat) (h : n < 9007199254740992) : Ieee.double.order (fl n) 4845873199050653696 = some .lt := by
  obtain ⟨k, hk⟩ := read_fl n h
  unfold Format.order
  rw [hk, read_whole, order_whole_num]
  exact Nat.mul_lt_mul_of_pos_right h (Nat.two_pow_pos k)

/-- A whole number and a half. -/
def half (n : Nat) : Nat := wd (2 * n + 1) (-1)
theorem read_half (n : Nat) (h : n < 4503599627370496) : ∃ k : Nat, Ieee.double.read (half n) = .number false ((2 * n + 1) * 2 ^ k) (-((k + 1 : Nat) : Int)) := by
  have hl := log2_le (2 * n + 1) (by omega)
  refine ⟨52 - (2 * n + 1).log2, ?_⟩
  unfold half
  rw [read_wd (2 * n + 1) (-1) (by omega) hl (by omega) (by omega)]
  congr 1
  omega
theorem read_05 : Ieee.double.read 4602678819172646912 = .number false 4503599627370496 (-53) := by decide
theorem add_half (a : Nat) (h : a < 4503599627370496) : Ieee.double.add (fl a) 4602678819172646912 = some (half a) := by
  obtain ⟨k, hk⟩ := read_fl a (by omega)
  unfold Format.add
  rw [hk, read_05]
  simp only [Datum.sum, signed, Option.map_some, Bool.false_eq_true, if_false, shl]
  have e1 : (-(k : Int) - min (-(k : Int)) (-53)).toNat = max k 53 - k := by omega
  have e2 : (-53 - min (-(k : Int)) (-53)).toNat = max k 53 - 53 := by omega
  have e3 : min (-(k : Int)) (-53) = -((max k 53 : Nat) : Int) := by omega
  rw [e1, e2, e3]
  obtain ⟨q, hq⟩ : ∃ q, max k 53 = q + 53 := ⟨max k 53 - 53, by omega⟩
  have e4 : a * 2 ^ k * 2 ^ (max k 53 - k) = 2 * a * 2 ^ (q + 52) := by
    rw [Nat.mul_assoc, ← Nat.pow_add, show k + (max k 53 - k) = q + 52 + 1 by omega, Nat.pow_succ, Nat.mul_comm (2 ^ (q + 52)) 2, ← Nat.mul_assoc, Nat.mul_comm a 2]
  have e5 : 4503599627370496 * 2 ^ (max k 53 - 53) = 2 ^ (q + 52) := by
    rw [show max k 53 - 53 = q by omega, Nat.pow_add, Nat.mul_comm]
  rw [e4, e5]
  have e6 : ((2 * a * 2 ^ (q + 52) : Nat) : Int) + ((2 ^ (q + 52) : Nat) : Int) = (((2 * a + 1) * 2 ^ (q + 52) : Nat) : Int) := by rw [Nat.add_mul, Nat.one_mul]; omega
  rw [e6]
  have e7 : (if (((2 * a + 1) * 2 ^ (q + 52) : Nat) : Int) = 0 then (false && false) else decide ((((2 * a + 1) * 2 ^ (q + 52) : Nat) : Int) < 0)) = false := by
    generalize (2 * a + 1) * 2 ^ (q + 52) = x
    split
    · rfl
    · exact decide_eq_false (by omega)
  rw [e7, Int.natAbs_natCast, hq]
  show some (wd ((2 * a + 1) * 2 ^ (q + 52)) _) = _
  have hl := log2_le (2 * a + 1) (by omega)
  have := wd_scale (2 * a + 1) (q + 52) (-1) hl (by omega) (by omega)
  rw [show -((q + 53 : Nat) : Int) = -1 - ((q + 52 : Nat) : Int) by omega, this]
  rfl
theorem toInt_half (a : Nat) (h : a < 4503599627370496) : Datum.toInt .zero (Ieee.double.read (half a)) = some (a : Int) := by
  obtain ⟨k, hk⟩ := read_half a h
  rw [hk, toInt_num _ k (k + 1) (by omega)]
  congr 2
  rw [Nat.pow_succ, Nat.mul_comm (2 ^ k) 2, ← Nat.div_div_eq_div_mul]
  rw [Nat.div_div_eq_div_mul, Nat.mul_div_mul_right _ _ (Nat.two_pow_pos k)]
  omega
theorem order_half (a : Nat) (h : a < 4503599627370496) : Ieee.double.order (fl a) (half a) = some .lt := by
  obtain ⟨k, hk⟩ := read_fl a (by omega)
  obtain ⟨l, hl⟩ := read_half a h
  unfold Format.order
  rw [hk, hl]
  have e : (2 * a + 1) * 2 ^ l = (2 * a + 1) * 2 ^ l := rfl
  have h1 : a * 2 ^ k = a * 2 ^ k := rfl
  simp only [Datum.order, signed, Bool.false_eq_true, if_false, shl]
  have e1 : (-(k : Int) - min (-(k : Int)) (-((l + 1 : Nat) : Int))).toNat = max k (l + 1) - k := by omega
  have e2 : (-((l + 1 : Nat) : Int) - min (-(k : Int)) (-((l + 1 : Nat) : Int))).toNat = max k (l + 1) - (l + 1) := by omega
  rw [e1, e2]
  obtain ⟨q, hq⟩ : ∃ q, max k (l + 1) = q + 1 := ⟨max k (l + 1) - 1, by omega⟩
  have e4 : a * 2 ^ k * 2 ^ (max k (l + 1) - k) = 2 * a * 2 ^ q := by
    rw [Nat.mul_assoc, ← Nat.pow_add, show k + (max k (l + 1) - k) = q + 1 by omega, Nat.pow_succ, Nat.mul_comm (2 ^ q) 2, ← Nat.mul_assoc, Nat.mul_comm a 2]
  have e5 : (2 * a + 1) * 2 ^ l * 2 ^ (max k (l + 1) - (l + 1)) = (2 * a + 1) * 2 ^ q := by
    rw [Nat.mul_assoc, ← Nat.pow_add]
    congr 2
    omega
  rw [e4, e5]
  congr 1
  show compareOfLessAndEq _ _ = _
  unfold compareOfLessAndEq
  have hp : 0 < 2 ^ q := Nat.two_pow_pos q
  rw [if_pos]
  rw [Nat.add_mul]
  generalize 2 * a * 2 ^ q = x at *
  generalize 2 ^ q = y at *
  omega
theorem order_half0 (a : Nat) (h : a < 4503599627370496) : Ieee.double.order (half a) 0 = some .gt := by
  obtain ⟨l, hl⟩ := read_half a h
  unfold Format.order
  rw [hl, read_zero]
  simp only [Datum.order, signed, Bool.false_eq_true, if_false, shl, Nat.zero_mul]
  congr 1
  show compareOfLessAndEq _ _ = _
  unfold compareOfLessAndEq
  have hp : 0 < (2 * a + 1) * 2 ^ l * 2 ^ (-((l + 1 : Nat) : Int) - min (-((l + 1 : Nat) : Int)) (-1074)).toNat := Nat.mul_pos (Nat.mul_pos (by omega) (Nat.two_pow_pos _)) (Nat.two_pow_pos _)
  generalize (2 * a + 1) * 2 ^ l * 2 ^ (-((l + 1 : Nat) : Int) - min (-((l + 1 : Nat) : Int)) (-1074)).toNat = x at *
  rw [if_neg (by omega), if_neg (by omega)]
theorem order_half_whole (a : Nat) (h : a < 4503599627370496) : Ieee.double.order (half a) 4845873199050653696 = some .lt := by
  obtain ⟨l, hl⟩ := read_half a h
  unfold Format.order
  rw [hl, read_whole, order_whole_num]
  rw [Nat.pow_succ]
  have hp : 0 < 2 ^ l := Nat.two_pow_pos l
  calc (2 * a + 1) * 2 ^ l < 9007199254740992 * 2 ^ l := Nat.mul_lt_mul_of_pos_right (by omega) hp
    _ ≤ 9007199254740992 * (2 ^ l * 2) := by omega

end Go.Proofs.Ytphicjokogljcaa
