/-
  The walks of seq.right and Trim.
-/
import Derived.Test.YtfijbbhoemdhbaaSeqA
namespace Go.Proofs.Ytfijbbhoemdhbaa
open Go.RowKit

theorem right_any' (size n : Int) (w : World) :
    Calls Try.prog 32 #[.int .i64 size, .int .i64 n] w fun e w' => e = .returned (.bool (may size n)) ∧ w = w' := by
  rcases Int.lt_or_le size 0 with h | h
  · go_enter Try.func32, Try.ntmps32
    go_wp2
    go_ret
    exact ⟨rbool (by unfold may; simp; omega), rfl⟩
  · rcases Int.lt_or_le 65535 size with h' | h'
    · go_enter Try.func32, Try.ntmps32
      go_wp2
      go_ret
      exact ⟨rbool (by unfold may; simp; omega), rfl⟩
    · rcases Int.lt_or_le n 0 with hn | hn
      · go_enter Try.func32, Try.ntmps32
        go_wp2
        go_ret
        exact ⟨rbool (by unfold may; simp; omega), rfl⟩
      · go_enter Try.func32, Try.ntmps32
        go_wp2
        go_ret
        exact ⟨rbool (by unfold may; rw [Bool.eq_iff_iff]; simp; omega), rfl⟩

theorem three_tuple {a b c x y z : Int} (h : a = x) (h' : b = y) (h'' : c = z) : Ending.returned (.tuple #[.int .i64 a, .int .i64 b, .int .i64 c]) = .returned (.tuple #[.int .i64 x, .int .i64 y, .int .i64 z]) := by rw [h, h', h'']

def TrimOut (w : World) (a' : Act) (w' : World) : Prop := w = w' ∧ ∃ u0 u1 u2 u3 u4 u5 u6 u7 u8 u9 u10 u11 u12 u13 u14 u15 u16 u17 u18 u19 u20 u21 u22 u23 u24 u25 u26 u27 u28 u29 u30 u31 u32 u33 u34 u35 u36 u37 u38 u39 u40 u41 u42 u43 u44 u45 u46 : Value, a' = { tmps := #[u0, u1, u2, u3, u4, u5, u6, u7, u8, u9, u10, u11, u12, u13, u14, u15, u16, u17, u18, u19, u20, u21, u22, u23, u24, u25, u26, u27, u28, u29, u30, u31, u32, u33, u34, u35, u36, u37, u38, u39, u40, u41, u42, u43, u44, u45, u46], defers := [] }

theorem trim_any (next size f n : Int) (w : World) :
    Calls Try.prog 23 #[.int .u32 next, .int .i64 size, .int .u32 f, .int .i64 n] w fun e w' => e = .returned (.tuple #[.int .i64 (trimCut next size f n), .int .i64 (trimLeft next size f n), .int .i64 (errOf size n)]) ∧ w = w' := by
  have b1 := way_bd next f
  have b2 := way_bd f next
  cases hm : may size n
  · have HM := Lib.hid hm
    clear hm
    go_enter Try.func23, Try.ntmps23
    go_wp2_with fail
    go_step3
    go_wp2_with fail
    refine (right_any' _ _ _).mono ?_
    rw [HM.out]
    rintro e w' ⟨rfl, rfl⟩
    go_wp2
    try rw [Exit.noGoto_ret]
    go_ret3
    exact ⟨three_tuple (by simp [trimCut, HM.out]) (by simp [trimLeft, HM.out]) (by simp [errOf, HM.out]), rfl⟩
  · have HM := Lib.hid hm
    have hm' : 0 ≤ size ∧ size ≤ 65535 ∧ 0 ≤ n ∧ n ≤ 1073741824 := by unfold may at hm; simpa using hm
    obtain ⟨s0, s1, n0, n1⟩ := hm'
    have HE : Hid (errOf size n = 0) := by show errOf size n = 0; simp [errOf, hm]
    have HC : Hid (trimCut next size f n = cutAt next size f n size) := by show trimCut next size f n = _; simp [trimCut, hm]
    have HL : Hid (trimLeft next size f n = leftAt next size f n size) := by show trimLeft next size f n = _; simp [trimLeft, hm]
    clear hm
    have HCC : Hid (cutAt next size f n size = if way next f < size then 0 else if way f next < n ∧ 1 ≤ size then way f next else 0) := rfl
    have HLL : Hid (leftAt next size f n size = if way next f < size then min n (max 0 (size - way next f)) else min (max 0 (n - way f next)) size) := rfl
    by_cases h1 : way next f < size
    · go_enter Try.func23, Try.ntmps23
      go_wp2_with fail
      go_step3
      go_wp2_with fail
      refine (right_any' _ _ _).mono ?_
      rw [HM.out]
      rintro e w' ⟨rfl, rfl⟩
      go_wp2_with fail
      refine (way_any _ _ _).mono ?_
      rintro e w' ⟨rfl, rfl⟩
      go_wp2_with fail
      refine (way_any _ _ _).mono ?_
      rintro e w' ⟨rfl, rfl⟩
      go_wp2_with fail
      all_goals
        (try rw [Exit.noGoto_ret])
        go_ret3
        exact ⟨three_tuple (by rw [HC.out, HCC.out, if_pos h1]) (by rw [HL.out, HLL.out, if_pos h1]; omega) HE.out.symm, rfl⟩
    · by_cases h2 : way f next < n ∧ 1 ≤ size
      · obtain ⟨h3, h4⟩ := h2
        have z0 : (size == 0) = false := by simp; omega
        go_enter Try.func23, Try.ntmps23
        go_wp2_with fail
        go_step3
        go_wp2_with fail
        refine (right_any' _ _ _).mono ?_
        rw [HM.out]
        rintro e w' ⟨rfl, rfl⟩
        go_wp2_with fail
        refine (way_any _ _ _).mono ?_
        rintro e w' ⟨rfl, rfl⟩
        go_wp2_with fail
        refine (way_any _ _ _).mono ?_
        rintro e w' ⟨rfl, rfl⟩
        go_wp2_with fail
        all_goals
          (try rw [Exit.noGoto_ret])
          go_ret3
          exact ⟨three_tuple (by rw [HC.out, HCC.out, if_neg (by omega), if_pos ⟨h3, h4⟩]) (by rw [HL.out, HLL.out, if_neg (by omega)]; omega) HE.out.symm, rfl⟩
      · go_enter Try.func23, Try.ntmps23
        go_wp2_with fail
        refine wp_scope_jumps 0 (TrimOut w) (fun _ _ => 0) rfl ?_ ?_
        · by_cases h3 : way f next < n
          · have z0 : size = 0 := by omega
            subst z0
            go_wp2_with fail
            refine (right_any' _ _ _).mono ?_
            rw [HM.out]
            rintro e w' ⟨rfl, rfl⟩
            go_wp2_with fail
            refine (way_any _ _ _).mono ?_
            rintro e w' ⟨rfl, rfl⟩
            go_wp2_with fail
            refine (way_any _ _ _).mono ?_
            rintro e w' ⟨rfl, rfl⟩
            go_wp2_with fail
            go_step3
            exact ⟨rfl, rfl, _, _, _, _, _, _, _, _, _, _, _, _, _, _, _, _, _, _, _, _, _, _, _, _, _, _, _, _, _, _, _, _, _, _, _, _, _, _, _, _, _, _, _, _, _, _, _, rfl⟩
          · go_wp2_with fail
            refine (right_any' _ _ _).mono ?_
            rw [HM.out]
            rintro e w' ⟨rfl, rfl⟩
            go_wp2_with fail
            refine (way_any _ _ _).mono ?_
            rintro e w' ⟨rfl, rfl⟩
            go_wp2_with fail
            refine (way_any _ _ _).mono ?_
            rintro e w' ⟨rfl, rfl⟩
            go_wp2_with fail
            go_step3
            exact ⟨rfl, rfl, _, _, _, _, _, _, _, _, _, _, _, _, _, _, _, _, _, _, _, _, _, _, _, _, _, _, _, _, _, _, _, _, _, _, _, _, _, _, _, _, _, _, _, _, _, _, _, rfl⟩
        · rintro a' w' ⟨rfl, u0, u1, u2, u3, u4, u5, u6, u7, u8, u9, u10, u11, u12, u13, u14, u15, u16, u17, u18, u19, u20, u21, u22, u23, u24, u25, u26, u27, u28, u29, u30, u31, u32, u33, u34, u35, u36, u37, u38, u39, u40, u41, u42, u43, u44, u45, u46, rfl⟩
          go_wp2_with fail
          simp only [Exit.jump]
          go_ret3
          exact ⟨three_tuple (by rw [HC.out, HCC.out, if_neg (by omega), if_neg (by omega)]) (by rw [HL.out, HLL.out, if_neg (by omega)]; omega) HE.out.symm, rfl⟩
end Go.Proofs.Ytfijbbhoemdhbaa
