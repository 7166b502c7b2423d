/-
  The walk of the law SeqTrims.
-/
import Derived.Test.YtdjaodecblialaaSeqLaws
namespace Go.Proofs.Ytdjaodecblialaa
open Go.RowKit

theorem trims_law (next size f n : Int) (e0 : 0 ≤ next) (e1 : next < 4294967296) (f0 : 0 ≤ f) (f1 : f < 4294967296) (hs0 : 0 ≤ size) (hs1 : size ≤ 65535) (hn0 : 0 ≤ n) (hn1 : n < 200000) :
    errOf size n = 0 ∧ 0 ≤ trimCut next size f n ∧ 0 ≤ trimLeft next size f n ∧ trimCut next size f n ≤ n - trimLeft next size f n ∧ trimLeft next size f n ≤ 200000 ∧
    (trimLeft next size f n = 0 → trimCut next size f n = 0 ∧ (accB next size f n = true → n ≤ 0)) ∧
    (trimLeft next size f n ≠ 0 → within (addw f (trimCut next size f n)) next size = true ∧ within (addw (addw f (trimCut next size f n)) (trimLeft next size f n - 1)) next size = true ∧ (addw f (trimCut next size f n) = next ∨ trimCut next size f n = 0)) := by
  have hm : may size n = true := by unfold may; simp; omega
  have ht : trimCut next size f n = cutAt next size f n size := by simp [trimCut, hm]
  have hl : trimLeft next size f n = leftAt next size f n size := by simp [trimLeft, hm]
  have hc : cutAt next size f n size = if way next f < size then 0 else if way f next < n ∧ 1 ≤ size then way f next else 0 := rfl
  have hll : leftAt next size f n size = if way next f < size then min n (max 0 (size - way next f)) else min (max 0 (n - way f next)) size := rfl
  have b1 := way_bd next f
  have b2 := way_bd f next
  have w1 : way next f = (f - next) % 4294967296 := rfl
  have w2 : way f next = (next - f) % 4294967296 := rfl
  have ha : accB next size f n = true → n ≠ 0 → within f next size = true ∨ within (addw f (n - 1)) next size = true := by
    intro h hz
    simp [accB, hm, hz] at h
    exact h
  have hw : ∀ a, within a next size = true ↔ way next a < size := by
    intro a
    unfold within
    simp
    omega
  rw [hw, hw] at ha
  have hw2 : way next (addw f (n - 1)) = (f + (n - 1) - next) % 4294967296 := by unfold way addw; omega
  rw [ht, hl]
  refine ⟨by simp [errOf, hm], ?_⟩
  by_cases h1 : way next f < size
  · rw [if_pos h1] at hc hll
    refine ⟨by omega, by omega, by omega, by omega, fun hz => ⟨by omega, fun _ => by omega⟩, fun hz => ?_⟩
    rw [hw, hw, hc, hll]
    have q1 : way next (addw f 0) = way next f := by unfold way addw; omega
    have q2 : ∀ x, way next (addw (addw f 0) x) = (f + x - next) % 4294967296 := by intro x; unfold way addw; omega
    rw [q1, q2]
    refine ⟨h1, by omega, .inr rfl⟩
  · rw [if_neg h1] at hc hll
    by_cases h2 : way f next < n ∧ 1 ≤ size
    · rw [if_pos h2] at hc
      refine ⟨by omega, by omega, by omega, by omega, fun hz => by omega, fun hz => ?_⟩
      rw [hw, hw, hc, hll]
      have q1 : addw f (way f next) = next := by unfold way addw; omega
      rw [q1]
      have q2 : way next next = 0 := by unfold way; omega
      have q3 : ∀ x, way next (addw next x) = x % 4294967296 := by intro x; unfold way addw; omega
      rw [q2, q3]
      refine ⟨by omega, by omega, .inl rfl⟩
    · rw [if_neg h2] at hc
      have hz0 : leftAt next size f n size = 0 := by omega
      refine ⟨by omega, by omega, by omega, by omega, fun hz => ⟨hc, fun h => ?_⟩, fun hz => absurd hz0 hz⟩
      by_cases hn : n = 0
      · omega
      · have := ha h hn
        rw [hw2] at this
        omega

set_option maxHeartbeats 1000000 in
set_option maxRecDepth 100000 in
theorem seqTrims_walk (next size0 f n0 : Int) (w : World) (e0 : 0 ≤ next) (e1 : next < 4294967296) (f0 : 0 ≤ f) (f1 : f < 4294967296) :
    Calls Try.prog 8 #[.int .u32 next, .int .i64 size0, .int .u32 f, .int .i64 n0] w fun e w' => e = .returned (.bool true) ∧ w = w' := by
  go_enter Try.func8, Try.ntmps8
  go_wp2_with fail
  refine (seqworks_any _).mono ?_
  rintro e w' ⟨rfl, rfl⟩
  go_wp2_with fail
  refine (among_any _ _ _ (by omega) (by omega)).mono ?_
  have hs := among_bd size0 65536 (by omega)
  generalize among size0 65536 = size at *
  rintro e w' ⟨rfl, rfl⟩
  go_wp2_with fail
  refine (among_any _ _ _ (by omega) (by omega)).mono ?_
  have hn := among_bd n0 200000 (by omega)
  generalize among n0 200000 = n at *
  rintro e w' ⟨rfl, rfl⟩
  obtain ⟨hs0, hs1⟩ := hs
  obtain ⟨hn0, hn1⟩ := hn
  have LAW := Lib.hid (trims_law next size f n e0 e1 f0 f1 hs0 (by omega) hn0 hn1)
  go_wp2_with fail
  refine (accepts_any _ _ _ _ _ f0 f1 (by omega) (by omega)).mono ?_
  rw [LAW.out.1]
  rintro e w' ⟨rfl, rfl⟩
  go_wp2_with fail
  refine (trim_any _ _ _ _ _).mono ?_
  rw [LAW.out.1]
  generalize trimCut next size f n = C at *
  generalize trimLeft next size f n = L at *
  obtain ⟨-, c0, l0, cl, l1, hz, hnz⟩ := LAW.out
  have HZ := Lib.hid hz
  have HNZ := Lib.hid hnz
  clear hz hnz LAW
  rintro e w' ⟨rfl, rfl⟩
  by_cases hL : L = 0
  · obtain ⟨hC, hacc⟩ := HZ.out hL
    subst hL hC
    have HA := Lib.hid hacc
    clear HZ HNZ hacc
    cases hb : accB next size f n
    · go_wp2_with fail
      refine (sadd_any _ _ _ f0 f1).mono ?_
      rintro e w' ⟨rfl, rfl⟩
      go_wp2_with fail
      go_ret
      exact ⟨rfl, rfl⟩
    · have hnn := HA.out hb
      go_wp2_with fail
      refine (sadd_any _ _ _ f0 f1).mono ?_
      rintro e w' ⟨rfl, rfl⟩
      go_wp2_with fail
      go_ret
      exact ⟨rfl, rfl⟩
  · obtain ⟨h1, h2, h3⟩ := HNZ.out hL
    have hL' : (L == 0) = false := by simp [hL]
    have H1 := Lib.hid h1
    have H2 := Lib.hid h2
    have b3 := addw_bd f C
    clear hL HZ HNZ h1 h2
    by_cases hC : C = 0
    · subst hC
      clear h3
      go_wp2_with fail
      refine (sadd_any _ _ _ f0 f1).mono ?_
      rintro e w' ⟨rfl, rfl⟩
      go_wp2_with fail
      refine (within_any _ _ _ _ (by omega) (by omega)).mono ?_
      rw [H1.out]
      rintro e w' ⟨rfl, rfl⟩
      go_wp2_with fail
      refine (sadd_any _ _ _ b3.1 b3.2).mono ?_
      rintro e w' ⟨rfl, rfl⟩
      go_wp2_with fail
      refine (within_any _ _ _ _ (by omega) (by omega)).mono ?_
      rw [H2.out]
      rintro e w' ⟨rfl, rfl⟩
      go_wp2_with fail
      all_goals
        go_ret
        exact ⟨rfl, rfl⟩
    · have h4 : addw f C = next := by
        rcases h3 with h3 | h3
        · exact h3
        · exact absurd h3 hC
      have H4 := Lib.hid h4
      rw [h4] at H1 H2
      clear h3 h4 hC b3
      go_wp2_with fail
      refine (sadd_any _ _ _ f0 f1).mono ?_
      rw [H4.out]
      rintro e w' ⟨rfl, rfl⟩
      go_wp2_with fail
      refine (within_any _ _ _ _ (by omega) (by omega)).mono ?_
      rw [H1.out]
      rintro e w' ⟨rfl, rfl⟩
      go_wp2_with fail
      refine (sadd_any _ _ _ e0 e1).mono ?_
      rintro e w' ⟨rfl, rfl⟩
      go_wp2_with fail
      refine (within_any _ _ _ _ (by omega) (by omega)).mono ?_
      rw [H2.out]
      rintro e w' ⟨rfl, rfl⟩
      go_wp2_with fail
      go_ret
      exact ⟨rfl, rfl⟩
end Go.Proofs.Ytdjaodecblialaa
