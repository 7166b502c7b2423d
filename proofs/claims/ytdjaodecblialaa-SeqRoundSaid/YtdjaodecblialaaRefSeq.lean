/-
  The walks of the reference's package for numbers that go round.
-/
import Derived.Test.YtdjaodecblialaaSeqTrim
namespace Go.Proofs.Ytdjaodecblialaa
open Go.RowKit

theorem rsadd_any (a n : Int) (w : World) (_h0 : 0 ≤ a) (_h1 : a < 4294967296) :
    Calls Try.prog 31 #[.int .u32 a, .int .i64 n] w fun e w' => e = .returned (.int .u32 (addw a n)) ∧ w = w' := by
  go_enter Try.func31, Try.ntmps31
  go_wp2
  go_ret
  exact ⟨rint (by unfold addw; simp only [IntKind.wrap_u64]; omega), rfl⟩

theorem rway_any (a b : Int) (w : World) (a0 : 0 ≤ a) (a1 : a < 4294967296) (b0 : 0 ≤ b) (b1 : b < 4294967296) :
    Calls Try.prog 33 #[.int .u32 a, .int .u32 b] w fun e w' => e = .returned (.int .u32 (way a b)) ∧ w = w' := by
  rcases Int.lt_or_le b a with h | h
  all_goals
    go_enter Try.func33, Try.ntmps33
    go_wp2
    go_ret
    exact ⟨rint (by unfold way; omega), rfl⟩

theorem rahead_any (a b : Int) (w : World) (a0 : 0 ≤ a) (a1 : a < 4294967296) (b0 : 0 ≤ b) (b1 : b < 4294967296) :
    Calls Try.prog 35 #[.int .u32 a, .int .u32 b] w fun e w' => e = .returned (.bool (ahead a b)) ∧ w = w' := by
  have hb := way_bd a b
  rcases Int.lt_or_le (way a b) 1 with h | h
  all_goals
    go_enter Try.func35, Try.ntmps35
    go_wp2_with (go_at_call 33; refine (rway_any _ _ _ a0 a1 b0 b1).mono ?_; rintro e w' ⟨rfl, rfl⟩)
    go_ret
    exact ⟨rbool (by unfold ahead; simp; omega), rfl⟩

theorem rleast_any (a b : Int) (w : World) (a0 : 0 ≤ a) (a1 : a < 4294967296) (b0 : 0 ≤ b) (b1 : b < 4294967296) :
    Calls Try.prog 37 #[.int .u32 a, .int .u32 b] w fun e w' => e = .returned (.int .u32 (least a b)) ∧ w = w' := by
  cases hh : ahead b a
  all_goals
    have hl : least a b = if ahead b a = true then b else a := rfl
    rw [hh] at hl
    have HL := Lib.hid hl
    have HH := Lib.hid hh
    clear hl hh
    go_enter Try.func37, Try.ntmps37
    go_wp2_with fail
    refine (rahead_any _ _ _ b0 b1 a0 a1).mono ?_
    rw [HH.out]
    rintro e w' ⟨rfl, rfl⟩
    go_wp2
    go_ret
    exact ⟨rint (by rw [HL.out]; simp), rfl⟩

theorem rwithin_any (a f size : Int) (w : World) (a0 : 0 ≤ a) (a1 : a < 4294967296) (b0 : 0 ≤ f) (b1 : f < 4294967296) :
    Calls Try.prog 38 #[.int .u32 a, .int .u32 f, .int .i64 size] w fun e w' => e = .returned (.bool (within a f size)) ∧ w = w' := by
  have hb := way_bd f a
  rcases Int.lt_or_le size 0 with h | h
  · go_enter Try.func38, Try.ntmps38
    go_wp2
    go_ret
    exact ⟨rbool (by unfold within; simp; omega), rfl⟩
  · rcases Int.lt_or_le 65535 size with h' | h'
    · go_enter Try.func38, Try.ntmps38
      go_wp2
      go_ret
      exact ⟨rbool (by unfold within; simp; omega), rfl⟩
    · go_enter Try.func38, Try.ntmps38
      go_wp2_with (go_at_call 33; refine (rway_any _ _ _ b0 b1 a0 a1).mono ?_; rintro e w' ⟨rfl, rfl⟩)
      go_ret
      exact ⟨rbool (by unfold within; rw [decide_eq_decide]; omega), rfl⟩

theorem rsure_any (u n a : Int) (w : World) (u0 : 0 ≤ u) (u1 : u < 4294967296) (n0 : 0 ≤ n) (n1 : n < 4294967296) (a0 : 0 ≤ a) (a1 : a < 4294967296) :
    Calls Try.prog 40 #[.int .u32 u, .int .u32 n, .int .u32 a] w fun e w' => e = .returned (.bool (sure u n a)) ∧ w = w' := by
  have hb := way_bd u a
  have hd := way_bd u n
  have HZ : Hid (sure u n a = decide (1 ≤ way u a ∧ way u a ≤ way u n)) := rfl
  rcases Int.lt_or_le (way u a) 1 with h | h
  · go_enter Try.func40, Try.ntmps40
    go_wp2_with fail
    refine (rway_any u a _ u0 u1 a0 a1).mono ?_
    rintro e w' ⟨rfl, rfl⟩
    go_wp2_with fail
    go_ret
    exact ⟨rbool (by rw [HZ.out]; simp; omega), rfl⟩
  · go_enter Try.func40, Try.ntmps40
    go_wp2_with fail
    refine (rway_any u a _ u0 u1 a0 a1).mono ?_
    rintro e w' ⟨rfl, rfl⟩
    go_wp2_with fail
    refine (rway_any u n _ u0 u1 n0 n1).mono ?_
    rintro e w' ⟨rfl, rfl⟩
    go_wp2_with fail
    go_ret
    exact ⟨rbool (by rw [HZ.out]; rw [decide_eq_decide]; omega), rfl⟩

theorem rright_any (size n : Int) (w : World) :
    Calls Try.prog 44 #[.int .i64 size, .int .i64 n] w fun e w' => e = .returned (.bool (may size n)) ∧ w = w' := by
  rcases Int.lt_or_le size 0 with h | h
  · go_enter Try.func44, Try.ntmps44
    go_wp2
    go_ret
    exact ⟨rbool (by unfold may; simp; omega), rfl⟩
  · rcases Int.lt_or_le 65535 size with h' | h'
    · go_enter Try.func44, Try.ntmps44
      go_wp2
      go_ret
      exact ⟨rbool (by unfold may; simp; omega), rfl⟩
    · rcases Int.lt_or_le n 0 with hn | hn
      · go_enter Try.func44, Try.ntmps44
        go_wp2
        go_ret
        exact ⟨rbool (by unfold may; simp; omega), rfl⟩
      · go_enter Try.func44, Try.ntmps44
        go_wp2
        go_ret
        exact ⟨rbool (by unfold may; rw [Bool.eq_iff_iff]; simp; omega), rfl⟩

theorem raccepts_any (next size f n : Int) (w : World) (e0 : 0 ≤ next) (e1 : next < 4294967296) (f0 : 0 ≤ f) (f1 : f < 4294967296) :
    Calls Try.prog 25 #[.int .u32 next, .int .i64 size, .int .u32 f, .int .i64 n] w fun e w' => e = .returned (.tuple #[.bool (accB next size f n), .int .i64 (errOf size n)]) ∧ w = w' := by
  cases hm : may size n
  · have HM := Lib.hid hm
    clear hm
    go_enter Try.func25, Try.ntmps25
    go_wp2_with fail
    refine (rright_any _ _ _).mono ?_
    rw [HM.out]
    rintro e w' ⟨rfl, rfl⟩
    go_wp2
    go_ret2
    exact ⟨acc_tuple (by simp [accB, HM.out]) (by simp [errOf, HM.out]), rfl⟩
  · have HM := Lib.hid hm
    have hm' : 0 ≤ n ∧ n ≤ 1073741824 := by unfold may at hm; simp at hm; omega
    obtain ⟨n0, n1⟩ := hm'
    clear hm
    by_cases hn : n = 0
    · subst hn
      by_cases hz : size = 0
      · subst hz
        go_enter Try.func25, Try.ntmps25
        go_wp2_with fail
        refine (rright_any _ _ _).mono ?_
        rw [HM.out]
        rintro e w' ⟨rfl, rfl⟩
        go_wp2
        go_ret2
        exact ⟨acc_tuple (by simp [accB, HM.out]; try rfl) (by simp [errOf, HM.out]), rfl⟩
      · have HZ := Lib.hid hz
        have hz' : (size == 0) = false := by simp [hz]
        clear hz
        go_enter Try.func25, Try.ntmps25
        go_wp2_with fail
        refine (rright_any _ _ _).mono ?_
        rw [HM.out]
        rintro e w' ⟨rfl, rfl⟩
        go_wp2_with fail
        refine (rwithin_any _ _ _ _ f0 f1 e0 e1).mono ?_
        rintro e w' ⟨rfl, rfl⟩
        go_wp2
        go_ret2
        exact ⟨acc_tuple (by simp [accB, HM.out, HZ.out]) (by simp [errOf, HM.out]), rfl⟩
    · have HN := Lib.hid hn
      have hn' : (n == 0) = false := by simp [hn]
      have HC : Hid (accB next size f n = (within f next size || within (addw f (n - 1)) next size)) := by
        show accB next size f n = _
        simp [accB, HM.out, hn]
      clear hn
      have b := addw_bd f (n - 1)
      cases hw : within f next size
      all_goals
        have HW := Lib.hid hw
        clear hw
        go_enter Try.func25, Try.ntmps25
        go_wp2_with fail
        refine (rright_any _ _ _).mono ?_
        rw [HM.out]
        rintro e w' ⟨rfl, rfl⟩
        go_wp2_with fail
        refine (rwithin_any _ _ _ _ f0 f1 e0 e1).mono ?_
        rw [HW.out]
        rintro e w' ⟨rfl, rfl⟩
        go_wp2_with fail
      · refine (rsadd_any _ _ _ f0 f1).mono ?_
        rintro e w' ⟨rfl, rfl⟩
        go_wp2_with fail
        refine (rwithin_any _ _ _ _ b.1 b.2 e0 e1).mono ?_
        rintro e w' ⟨rfl, rfl⟩
        go_wp2_with fail
        go_ret2
        exact ⟨acc_tuple (by rw [HC.out, HW.out]; simp) (by simp [errOf, HM.out]), rfl⟩
      · go_ret2
        exact ⟨acc_tuple (by rw [HC.out, HW.out]; simp) (by simp [errOf, HM.out]), rfl⟩

set_option maxRecDepth 100000 in
theorem rtrim_any (next size f n : Int) (w : World) (e0 : 0 ≤ next) (e1 : next < 4294967296) (f0 : 0 ≤ f) (f1 : f < 4294967296) :
    Calls Try.prog 27 #[.int .u32 next, .int .i64 size, .int .u32 f, .int .i64 n] w fun e w' => e = .returned (.tuple #[.int .i64 (trimCut next size f n), .int .i64 (trimLeft next size f n), .int .i64 (errOf size n)]) ∧ w = w' := by
  cases hm : may size n
  · have HM := Lib.hid hm
    clear hm
    go_enter Try.func27, Try.ntmps27
    go_wp2_with fail
    refine (rright_any _ _ _).mono ?_
    rw [HM.out]
    rintro e w' ⟨rfl, rfl⟩
    go_wp2
    go_ret3
    exact ⟨three_tuple (by simp [trimCut, HM.out]) (by simp [trimLeft, HM.out]) (by simp [errOf, HM.out]), rfl⟩
  · have HM := Lib.hid hm
    have hm' : 0 ≤ size ∧ size ≤ 65535 ∧ 0 ≤ n ∧ n ≤ 1073741824 := by unfold may at hm; simpa using hm
    obtain ⟨s0, s1, n0, n1⟩ := hm'
    have HE : Hid (errOf size n = 0) := by show errOf size n = 0; simp [errOf, hm]
    have HC : Hid (trimCut next size f n = cutAt next size f n size) := by show trimCut next size f n = _; simp [trimCut, hm]
    have HL : Hid (trimLeft next size f n = leftAt next size f n size) := by show trimLeft next size f n = _; simp [trimLeft, hm]
    have HS := Lib.hid (cut_start next size f n hm)
    clear hm
    go_enter Try.func27, Try.ntmps27
    go_wp2_with fail
    refine (rright_any _ _ _).mono ?_
    rw [HM.out]
    rintro e w' ⟨rfl, rfl⟩
    go_wp2_with fail
    go_loop [11, 12, 13] (fun ah ma i => ∃ k : Int, 0 ≤ k ∧ k ≤ size ∧ i = .int .i64 k ∧ ah = .int .i64 (cutAt next size f n k) ∧ ma = .int .i64 (leftAt next size f n k)) (fun _ _ i => (size - intOf i).toNat)
    case atStart => exact ⟨0, by omega, s0, rfl, by rw [HS.out.2], by rw [HS.out.1]⟩
    case round =>
      obtain ⟨k, hk0, hk1, rfl, rfl, rfl⟩ := hrel
      have lb := left_bd next size f n k HM.out hk0
      by_cases hlt : k < size
      · have b1 := addw_bd next k
        have b2 := way_bd f (addw next k)
        by_cases hin : way f (addw next k) < n
        · have HI := Lib.hid (cut_in next size f n k HM.out hk0 hlt hin)
          by_cases hz : leftAt next size f n k = 0
          · have hz' : (leftAt next size f n k == 0) = true := by simp [hz]
            have HZ := Lib.hid hz
            clear hz
            go_wp2_with fail
            refine (rsadd_any _ _ _ e0 e1).mono ?_
            rintro e w' ⟨rfl, rfl⟩
            go_wp2_with fail
            refine (rway_any _ _ _ f0 f1 b1.1 b1.2).mono ?_
            rintro e w' ⟨rfl, rfl⟩
            go_wp2_with fail
            go_round
            case rel => exact ⟨k + 1, by omega, by omega, rfl, by rw [HI.out.2, if_pos HZ.out], by rw [HI.out.1]⟩
            case measure => simp [intOf]; omega
          · have hz' : (leftAt next size f n k == 0) = false := by simp [hz]
            have HZ := Lib.hid hz
            clear hz
            go_wp2_with fail
            refine (rsadd_any _ _ _ e0 e1).mono ?_
            rintro e w' ⟨rfl, rfl⟩
            go_wp2_with fail
            refine (rway_any _ _ _ f0 f1 b1.1 b1.2).mono ?_
            rintro e w' ⟨rfl, rfl⟩
            go_wp2_with fail
            go_round
            case rel => exact ⟨k + 1, by omega, by omega, rfl, by rw [HI.out.2, if_neg HZ.out], by rw [HI.out.1]⟩
            case measure => simp [intOf]; omega
        · have HO := Lib.hid (cut_out next size f n k HM.out hk0 hlt hin)
          go_wp2_with fail
          refine (rsadd_any _ _ _ e0 e1).mono ?_
          rintro e w' ⟨rfl, rfl⟩
          go_wp2_with fail
          refine (rway_any _ _ _ f0 f1 b1.1 b1.2).mono ?_
          rintro e w' ⟨rfl, rfl⟩
          go_wp2_with fail
          go_round
          case rel => exact ⟨k + 1, by omega, by omega, rfl, by rw [HO.out.2], by rw [HO.out.1]⟩
          case measure => simp [intOf]; omega
      · have : k = size := by omega
        subst this
        go_wp2_with fail
        go_ret3
        exact ⟨three_tuple HC.out.symm HL.out.symm HE.out.symm, rfl⟩
end Go.Proofs.Ytdjaodecblialaa
