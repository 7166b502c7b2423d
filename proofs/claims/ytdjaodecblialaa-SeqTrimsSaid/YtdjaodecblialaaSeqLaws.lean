/-
  The walks of the laws SeqAccepts, SeqTells, SeqRound and SeqTrims.
-/
import Derived.Test.YtdjaodecblialaaRefSeq
import Derived.Test.YtdjaodecblialaaBytes
namespace Go.Proofs.Ytdjaodecblialaa
open Go.RowKit

theorem seqworks_any (w : World) : Calls Try.prog 28 #[] w fun e w' => e = .returned (.bool true) ∧ w = w' := by
  have k1 : accB 10 5 8 4 = true := by decide
  have k2 : errOf 5 4 = 0 := by decide
  have k3 : trimCut 10 5 8 4 = 2 := by decide
  have k4 : trimLeft 10 5 8 4 = 2 := by decide
  have k5 : way 4294967295 1 = 2 := by decide
  go_enter Try.func28, Try.ntmps28
  go_wp2_with fail
  refine (accepts_any _ _ _ _ _ (by omega) (by omega) (by omega) (by omega)).mono ?_
  rw [k1, k2]
  rintro e w' ⟨rfl, rfl⟩
  go_wp2_with fail
  refine (trim_any _ _ _ _ _).mono ?_
  rw [k2, k3, k4]
  rintro e w' ⟨rfl, rfl⟩
  go_wp2_with fail
  refine (way_any _ _ _).mono ?_
  rw [k5]
  rintro e w' ⟨rfl, rfl⟩
  go_wp2_with fail
  go_ret
  exact ⟨rfl, rfl⟩

set_option maxRecDepth 100000 in
theorem seqAccepts_walk (next size f n : Int) (w : World) (e0 : 0 ≤ next) (e1 : next < 4294967296) (f0 : 0 ≤ f) (f1 : f < 4294967296) (s0 : -9223372036854775808 ≤ size) (s1 : size ≤ 9223372036854775807) :
    Calls Try.prog 7 #[.int .u32 next, .int .i64 size, .int .u32 f, .int .i64 n] w fun e w' => e = .returned (.bool true) ∧ w = w' := by
  go_enter Try.func7, Try.ntmps7
  go_wp2_with fail
  refine (accepts_any _ _ _ _ _ f0 f1 s0 s1).mono ?_
  rintro e w' ⟨rfl, rfl⟩
  go_wp2_with fail
  refine (raccepts_any _ _ _ _ _ e0 e1 f0 f1).mono ?_
  rintro e w' ⟨rfl, rfl⟩
  go_wp2_with fail
  refine (trim_any _ _ _ _ _).mono ?_
  rintro e w' ⟨rfl, rfl⟩
  go_wp2_with fail
  refine (rtrim_any _ _ _ _ _ e0 e1 f0 f1).mono ?_
  rintro e w' ⟨rfl, rfl⟩
  go_wp2_with fail
  refine (seqworks_any _).mono ?_
  rintro e w' ⟨rfl, rfl⟩
  go_wp2_with fail
  go_ret
  exact ⟨rfl, rfl⟩

set_option maxRecDepth 100000 in
theorem seqTells_walk (a b c n : Int) (w : World) (a0 : 0 ≤ a) (a1 : a < 4294967296) (b0 : 0 ≤ b) (b1 : b < 4294967296) (c0 : 0 ≤ c) (c1 : c < 4294967296) (n0 : -9223372036854775808 ≤ n) (n1 : n ≤ 9223372036854775807) :
    Calls Try.prog 9 #[.int .u32 a, .int .u32 b, .int .u32 c, .int .i64 n] w fun e w' => e = .returned (.bool true) ∧ w = w' := by
  go_enter Try.func9, Try.ntmps9
  go_wp2_with fail
  refine (sadd_any _ _ _ a0 a1).mono ?_
  rintro e w' ⟨rfl, rfl⟩
  go_wp2_with fail
  refine (rsadd_any _ _ _ a0 a1).mono ?_
  rintro e w' ⟨rfl, rfl⟩
  go_wp2_with fail
  refine (way_any _ _ _).mono ?_
  rintro e w' ⟨rfl, rfl⟩
  go_wp2_with fail
  refine (rway_any _ _ _ a0 a1 b0 b1).mono ?_
  rintro e w' ⟨rfl, rfl⟩
  go_wp2_with fail
  refine (ahead_any _ _ _).mono ?_
  rintro e w' ⟨rfl, rfl⟩
  go_wp2_with fail
  refine (rahead_any _ _ _ a0 a1 b0 b1).mono ?_
  rintro e w' ⟨rfl, rfl⟩
  go_wp2_with fail
  refine (least_any _ _ _).mono ?_
  rintro e w' ⟨rfl, rfl⟩
  go_wp2_with fail
  refine (rleast_any _ _ _ a0 a1 b0 b1).mono ?_
  rintro e w' ⟨rfl, rfl⟩
  go_wp2_with fail
  refine (within_any _ _ _ _ n0 n1).mono ?_
  rintro e w' ⟨rfl, rfl⟩
  go_wp2_with fail
  refine (rwithin_any _ _ _ _ a0 a1 b0 b1).mono ?_
  rintro e w' ⟨rfl, rfl⟩
  go_wp2_with fail
  refine (sure_any _ _ _ _).mono ?_
  rintro e w' ⟨rfl, rfl⟩
  go_wp2_with fail
  refine (rsure_any _ _ _ _ a0 a1 b0 b1 c0 c1).mono ?_
  rintro e w' ⟨rfl, rfl⟩
  go_wp2_with fail
  refine (seqworks_any _).mono ?_
  rintro e w' ⟨rfl, rfl⟩
  go_wp2_with fail
  go_ret
  exact ⟨rfl, rfl⟩

theorem turn_way (a b k : Int) : way (addw a k) (addw b k) = way a b := by unfold way addw; omega
theorem turn_ahead (a b k : Int) : ahead (addw a k) (addw b k) = ahead a b := by unfold ahead; rw [turn_way]
theorem turn_least (a b k : Int) : least (addw a k) (addw b k) = addw (least a b) k := by
  unfold least
  rw [turn_ahead]
  split <;> rfl
theorem turn_sure (a b c k : Int) : sure (addw a k) (addw b k) (addw c k) = sure a b c := by unfold sure; rw [turn_way, turn_way]
theorem turn_within (a b k size : Int) : within (addw a k) (addw b k) size = within a b size := by unfold within; rw [turn_way]
theorem turn_accB (a size b n k : Int) (a0 : 0 ≤ a) (a1 : a < 4294967296) (b0 : 0 ≤ b) (b1 : b < 4294967296) : accB (addw a k) size (addw b k) n = accB a size b n := by
  unfold accB
  have e : addw (addw b k) (n - 1) = addw (addw b (n - 1)) k := by unfold addw; omega
  rw [turn_within, e, turn_within]
  have e2 : decide (addw b k = addw a k) = decide (b = a) := by rw [decide_eq_decide]; unfold addw; omega
  rw [e2]
theorem turn_cut (a size b n k : Int) : trimCut (addw a k) size (addw b k) n = trimCut a size b n := by unfold trimCut cutAt; rw [turn_way, turn_way]
theorem turn_left (a size b n k : Int) : trimLeft (addw a k) size (addw b k) n = trimLeft a size b n := by unfold trimLeft leftAt; rw [turn_way, turn_way]

set_option maxHeartbeats 1000000 in
set_option maxRecDepth 100000 in
theorem seqRound_walk (a b c k size n : Int) (w : World) (a0 : 0 ≤ a) (a1 : a < 4294967296) (b0 : 0 ≤ b) (b1 : b < 4294967296) (_c0 : 0 ≤ c) (_c1 : c < 4294967296) (_k0 : 0 ≤ k) (_k1 : k < 4294967296)
    (s0 : -9223372036854775808 ≤ size) (s1 : size ≤ 9223372036854775807) :
    Calls Try.prog 10 #[.int .u32 a, .int .u32 b, .int .u32 c, .int .u32 k, .int .i64 size, .int .i64 n] w fun e w' => e = .returned (.bool true) ∧ w = w' := by
  have q1 := Lib.hid (turn_way a b k)
  have q2 := Lib.hid (turn_ahead a b k)
  have q3 := Lib.hid (turn_least a b k)
  have q4 := Lib.hid (turn_sure a b c k)
  have q5 := Lib.hid (turn_within a b k size)
  have q6 := Lib.hid (turn_accB a size b n k a0 a1 b0 b1)
  have q7 := Lib.hid (turn_cut a size b n k)
  have q8 := Lib.hid (turn_left a size b n k)
  have g1 : (a + k) % 4294967296 = addw a k := rfl
  have g2 : (b + k) % 4294967296 = addw b k := rfl
  have g3 : (c + k) % 4294967296 = addw c k := rfl
  have g4 : (least a b + k) % 4294967296 = addw (least a b) k := rfl
  have d1 := addw_bd a k
  have d2 := addw_bd b k
  go_enter Try.func10, Try.ntmps10
  go_wp2_with fail
  refine (seqworks_any _).mono ?_
  rintro e w' ⟨rfl, rfl⟩
  go_wp2_with fail
  refine (accepts_any _ _ _ _ _ b0 b1 s0 s1).mono ?_
  rintro e w' ⟨rfl, rfl⟩
  go_wp2_with fail
  refine (accepts_any _ _ _ _ _ d2.1 d2.2 s0 s1).mono ?_
  rw [q6.out]
  rintro e w' ⟨rfl, rfl⟩
  go_wp2_with fail
  refine (trim_any _ _ _ _ _).mono ?_
  rintro e w' ⟨rfl, rfl⟩
  go_wp2_with fail
  refine (trim_any _ _ _ _ _).mono ?_
  rw [q7.out, q8.out]
  rintro e w' ⟨rfl, rfl⟩
  go_wp2_with fail
  refine (way_any _ _ _).mono ?_
  rintro e w' ⟨rfl, rfl⟩
  go_wp2_with fail
  refine (way_any _ _ _).mono ?_
  rw [q1.out]
  rintro e w' ⟨rfl, rfl⟩
  go_wp2_with fail
  refine (ahead_any _ _ _).mono ?_
  rintro e w' ⟨rfl, rfl⟩
  go_wp2_with fail
  refine (ahead_any _ _ _).mono ?_
  rw [q2.out]
  rintro e w' ⟨rfl, rfl⟩
  go_wp2_with fail
  refine (least_any _ _ _).mono ?_
  rintro e w' ⟨rfl, rfl⟩
  go_wp2_with fail
  refine (least_any _ _ _).mono ?_
  rw [q3.out]
  rintro e w' ⟨rfl, rfl⟩
  go_wp2_with fail
  refine (sure_any _ _ _ _).mono ?_
  rintro e w' ⟨rfl, rfl⟩
  go_wp2_with fail
  refine (sure_any _ _ _ _).mono ?_
  rw [q4.out]
  rintro e w' ⟨rfl, rfl⟩
  go_wp2_with fail
  refine (within_any _ _ _ _ s0 s1).mono ?_
  rintro e w' ⟨rfl, rfl⟩
  go_wp2_with fail
  refine (within_any _ _ _ _ s0 s1).mono ?_
  rw [q5.out]
  rintro e w' ⟨rfl, rfl⟩
  go_wp2_with fail
  go_ret
  exact ⟨rfl, rfl⟩
end Go.Proofs.Ytdjaodecblialaa
