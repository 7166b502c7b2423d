/-
  The walks of the laws TallyFull and TallyVoid.
-/
import Derived.Test.YtphicjokogljcaaTallyLaws1
namespace Go.Proofs.Ytphicjokogljcaa
open Go.RowKit

/-- So many times 2^32 counted in the first pair. -/
def cnt (i : Nat) : Counts := fun j => if j = 0 then (i * 4294967296, 0) else (0, 0)
theorem cnt_zero : cnt 0 = fun _ => (0, 0) := by funext j; unfold cnt; split <;> simp
theorem cnt_add (i : Nat) (h : i < 16384) : addE 1 (cnt i) 0 0 4294967296 0 = 0 ∧ addF 1 (cnt i) 0 0 4294967296 0 = cnt (i + 1) := by
  have h1 : ok2 1 0 0 4294967296 0 := by decide
  have h2 : ¬ full (cnt i) 0 0 4294967296 0 := by
    unfold full
    have : ix 0 0 = 0 := rfl
    rw [this]
    simp only [cnt, if_true]
    omega
  rw [addE, addF, if_pos h1, if_neg h2, if_pos h1, if_neg h2]
  refine ⟨rfl, ?_⟩
  funext j
  have : ix 0 0 = 0 := rfl
  rw [this]
  unfold cnt
  by_cases hj : j = 0
  · subst hj
    simp only [if_true]
    rw [show ((4294967296 : Int).toNat) = 4294967296 from rfl, show ((0 : Int).toNat) = 0 from rfl, Nat.add_mul]
  · simp only [hj, if_false]
theorem cnt_full (m : Int) (h0 : 1 ≤ m) (h1 : m ≤ 4294967296) : addE 1 (cnt 16384) 0 0 m 1 = 4 ∧ addF 1 (cnt 16384) 0 0 m 1 = cnt 16384 := by
  have h2 : ok2 1 0 0 m 1 := ⟨by decide, by unfold fewB; simp; omega, by decide⟩
  have h3 : full (cnt 16384) 0 0 m 1 := by
    unfold full
    have : ix 0 0 = 0 := rfl
    rw [this]
    simp only [cnt, if_true]
    omega
  rw [addE, addF, if_pos h2, if_pos h3, if_pos h2, if_pos h3]
  exact ⟨rfl, rfl⟩
theorem cnt_last : addE 1 (cnt 16384) 0 0 0 1 = 0 ∧ getIn 1 (addF 1 (cnt 16384) 0 0 0 1) 0 0 = (70368744177664, 1) := by
  have h2 : ok2 1 0 0 0 1 := by decide
  have h3 : ¬ full (cnt 16384) 0 0 0 1 := by
    unfold full
    have : ix 0 0 = 0 := rfl
    rw [this]
    simp only [cnt, if_true]
    omega
  rw [addE, addF, if_pos h2, if_neg h3, if_pos h2, if_neg h3]
  refine ⟨rfl, ?_⟩
  have h4 : inT 1 0 0 := by decide
  rw [getIn, if_pos h4]
  have : ix 0 0 = 0 := rfl
  rw [this]
  simp only [if_true, cnt]
  rfl

theorem neq_zero_int : ((0 : Int) != 0) = false := rfl

set_option maxHeartbeats 2000000 in
set_option maxRecDepth 100000 in
theorem tallyFull_walk (m0 : Int) (w : World) :
    Calls Try.prog 4 #[.int .i64 m0] w fun e w' => e = .returned (.bool true) ∧ Below w.heap.size w w' := by
  go_enter Try.func4, Try.ntmps4
  go_wp2_with fail
  refine (tworks_any _).mono ?_
  rintro e w1 ⟨rfl, hb⟩
  go_wp2_with fail
  refine (new_any 1 _ (by omega) (by omega)).mono ?_
  rintro e w2 ⟨rfl, ht, hb2⟩
  have hg : w.heap.size ≤ w1.heap.size := hb.size
  replace hb := hb.trans (hb2.mono hg)
  rw [← cnt_zero] at ht
  clear hb2
  generalize w1.heap.size = g at *
  go_wp2_with fail
  go_loopw [5] (fun i wr => ∃ k : Nat, k ≤ 16384 ∧ i = .int .i64 k ∧ TallyAt wr g 1 (cnt k) ∧ Below w.heap.size w wr) (fun i _ => 16384 - (intOf i).toNat)
  case atStart => exact ⟨0, by omega, rfl, ht, hb⟩
  case round =>
    obtain ⟨k, hk, rfl, ht, hb⟩ := hrel
    by_cases hlt : k < 16384
    · have CA := Lib.hid (cnt_add k hlt)
      go_wp2_with fail
      refine (tadd_any g 1 0 0 4294967296 0 _ _ ht).mono ?_
      rintro e w3 ⟨he, ht3, hg3⟩
      rw [CA.out.1] at he
      rw [CA.out.2] at ht3
      subst he
      replace hb := below_grown hb hg3 (Nat.le_refl _) hg
      clear hg3
      go_wp2_with fail
      go_roundw
      case rel => exact ⟨k + 1, by omega, by go_num, ht3, hb⟩
      case measure => simp [intOf]; omega
    · have hk' : k = 16384 := by omega
      subst hk'
      clear hk hlt
      go_wp2_with fail
      refine (among_any _ _ _ (by omega) (by omega)).mono ?_
      have hm := among_bd m0 4294967296 (by omega)
      generalize among m0 4294967296 = m at *
      rintro e w' ⟨rfl, rfl⟩
      have CF := Lib.hid (cnt_full (m + 1) (by omega) (by omega))
      obtain ⟨m1, m2⟩ := hm
      go_wp2_with fail
      refine (tadd_any g 1 0 0 (m + 1) 1 _ _ ht).mono ?_
      rintro e w3 ⟨he, ht3, hg3⟩
      rw [CF.out.1] at he
      rw [CF.out.2] at ht3
      subst he
      replace hb := below_grown hb hg3 (Nat.le_refl _) hg
      clear hg3
      go_wp2_with fail
      refine (tadd_any g 1 0 0 0 1 _ _ ht3).mono ?_
      rintro e w4 ⟨he, ht4, hg4⟩
      rw [cnt_last.1] at he
      subst he
      replace hb := below_grown hb hg4 (Nat.le_refl _) hg
      clear hg4
      go_wp2_with fail
      refine (tget_any g 1 0 0 _ _ ht4).mono ?_
      rw [cnt_last.2]
      rintro e w5 ⟨rfl, rfl⟩
      go_wp2_with fail
      go_ret
      exact ⟨rfl, hb⟩
end Go.Proofs.Ytphicjokogljcaa
