/-
  The walks of tally.over, Peer, Kind, All.
-/
import Derived.Test.YtphicjokogljcaaTallyLaws1
import Derived.Test.YtphicjokogljcaaPlainTally
namespace Go.Proofs.Ytphicjokogljcaa
open Go.RowKit
set_option linter.unusedVariables false

def cx (x : Nat × Nat) : Value := .complex .f64 (fl x.1) (fl x.2)
/-- What is summed: the pairs of which q holds. -/
def picked (q : Nat → Nat → Bool) (f : Counts) (i : Nat) : Nat × Nat := if q (i / 8) (i % 8) then f i else (0, 0)
theorem psum_mono (f : Nat → Nat × Nat) {n m : Nat} (h : n ≤ m) : (psum f n).1 ≤ (psum f m).1 ∧ (psum f n).2 ≤ (psum f m).2 := by
  induction m with
  | zero => have : n = 0 := by omega
            subst this; exact ⟨Nat.le_refl _, Nat.le_refl _⟩
  | succ m ih =>
    by_cases e : n = m + 1
    · subst e; exact ⟨Nat.le_refl _, Nat.le_refl _⟩
    · have := ih (by omega)
      simp only [psum]
      omega
/-- A closure that tells of a peer and a kind. -/
def Tells (F : Value) (q : Nat → Nat → Bool) (w : World) : Prop :=
  ∃ (k : Nat) (caps : Array Value), F = .func (.func k) #[] caps ∧ (∀ args W, (callFunc k args).run Try.prog W = .ok (.enter k args) W) ∧ ∀ p j : Nat, p < 16 → j < 8 → Calls Try.prog k (#[.int .i64 p, .int .i64 j] ++ caps) w fun e w' => e = .returned (.bool (q p j)) ∧ w = w'

theorem idx8 (f : Counts) (b j : Nat) (hj : j < 8) (W : World) : (Instr.index 47 (.agg #[.complex .f64 (fl (f b).1) (fl (f b).2), .complex .f64 (fl (f (b + 1)).1) (fl (f (b + 1)).2), .complex .f64 (fl (f (b + 2)).1) (fl (f (b + 2)).2), .complex .f64 (fl (f (b + 3)).1) (fl (f (b + 3)).2), .complex .f64 (fl (f (b + 4)).1) (fl (f (b + 4)).2), .complex .f64 (fl (f (b + 5)).1) (fl (f (b + 5)).2), .complex .f64 (fl (f (b + 6)).1) (fl (f (b + 6)).2), .complex .f64 (fl (f (b + 7)).1) (fl (f (b + 7)).2)]) (.int .i64 (j : Int))).run Try.prog W = .ok (.complex .f64 (fl (f (b + j)).1) (fl (f (b + j)).2)) W := by
  rcases (by omega : j = 0 ∨ j = 1 ∨ j = 2 ∨ j = 3 ∨ j = 4 ∨ j = 5 ∨ j = 6 ∨ j = 7) with rfl | rfl | rfl | rfl | rfl | rfl | rfl | rfl
  all_goals kernel_rfl
theorem picked_at (q : Nat → Nat → Bool) (f : Counts) (p j : Nat) (hj : j < 8) : picked q f (p * 8 + j) = if q p j then f (p * 8 + j) else (0, 0) := by
  unfold picked
  rw [show (p * 8 + j) / 8 = p by omega, show (p * 8 + j) % 8 = j by omega]

set_option maxHeartbeats 8000000 in
set_option maxRecDepth 100000 in
theorem over_any (g : Nat) (P : Int) (f : Counts) (F : Value) (q : Nat → Nat → Bool) (w : World) (ht : TallyAt w g P f) (hF : Tells F q w) (hs : (psum (picked q f) 128).1 < 9007199254740992 ∧ (psum (picked q f) 128).2 < 9007199254740992) :
    Calls Try.prog 28 #[.pointer (some ⟨g, 0, none⟩), F] w fun e w' => e = .returned (cx (psum (picked q f) 128)) ∧ w = w' := by
  obtain ⟨kf, caps, rfl, eg, hcall⟩ := hF
  have hp := ht.peers
  have p0 := ht.p0
  have HC := Lib.hid hcall
  have HT := Lib.hid ht
  have HS := Lib.hid hs
  clear hcall ht hs
  go_enter Try.func28, Try.ntmps28
  go_wp2_with fail
  refine (is_yes g P _ hp p0).mono ?_
  rintro e w' ⟨rfl, rfl⟩
  go_wp2_with fail
  go_loop [5, 13] (fun s i => ∃ p : Nat, p ≤ 16 ∧ i = .int .i64 p ∧ s = .complex .f64 (fl (psum (picked q f) (p * 8)).1) (fl (psum (picked q f) (p * 8)).2)) (fun _ i => 16 - (intOf i).toNat)
  case atStart => exact ⟨0, by omega, rfl, by simp [psum, fl_zero]⟩
  case round =>
    obtain ⟨p, hp16, rfl, rfl⟩ := hrel
    by_cases hlt : p < 16
    · have hlt' : (p : Int) < 16 := by omega
      have d0 := HT.out.at_ (p * 8) (by omega)
      have d1 := HT.out.at_ (p * 8 + 1) (by omega)
      have d2 := HT.out.at_ (p * 8 + 2) (by omega)
      have d3 := HT.out.at_ (p * 8 + 3) (by omega)
      have d4 := HT.out.at_ (p * 8 + 4) (by omega)
      have d5 := HT.out.at_ (p * 8 + 5) (by omega)
      have d6 := HT.out.at_ (p * 8 + 6) (by omega)
      have d7 := HT.out.at_ (p * 8 + 7) (by omega)
      go_wp2_with fail
      clear d0 d1 d2 d3 d4 d5 d6 d7
      go_loop [5, 22] (fun s i => ∃ j : Nat, j ≤ 8 ∧ i = .int .i64 j ∧ s = .complex .f64 (fl (psum (picked q f) (p * 8 + j)).1) (fl (psum (picked q f) (p * 8 + j)).2)) (fun _ i => 8 - (intOf i).toNat)
      case atStart => exact ⟨0, by omega, rfl, rfl⟩
      case round =>
        obtain ⟨j, hj8, rfl, rfl⟩ := hrel
        by_cases hjl : j < 8
        · have hjl' : (j : Int) < 8 := by omega
          have ix := idx8 f (p * 8) j hjl
          have hc := Lib.hid (HC.out p j hlt hjl)
          have hm := psum_mono (picked q f) (show p * 8 + j + 1 ≤ 128 by omega)
          have hsum : psum (picked q f) (p * 8 + j + 1) = ((psum (picked q f) (p * 8 + j)).1 + (picked q f (p * 8 + j)).1, (psum (picked q f) (p * 8 + j)).2 + (picked q f (p * 8 + j)).2) := rfl
          have hpk := picked_at q f p j hjl
          have hS := HS.out
          obtain ⟨a, EA⟩ : ∃ z, Hid ((psum (picked q f) (p * 8 + j)).1 = z) := ⟨_, rfl⟩
          obtain ⟨b, EB⟩ : ∃ z, Hid ((psum (picked q f) (p * 8 + j)).2 = z) := ⟨_, rfl⟩
          rw [EA.out, EB.out] at hsum
          rw [EA.out, EB.out]
          rw [hsum] at hm
          have HSUM := Lib.hid hsum
          have HPK := Lib.hid hpk
          have HM := Lib.hid hm
          have HS' := Lib.hid hS
          clear hsum hpk hm hS
          go_wp2_with fail
          refine hc.out.mono ?_
          cases hq : q p j
          · rw [hq] at HPK
            rintro e w' ⟨rfl, rfl⟩
            go_wp2_with fail
            go_round
            case rel => exact ⟨j + 1, by omega, by go_num, by rw [show p * 8 + (j + 1) = p * 8 + j + 1 by omega, HSUM.out, HPK.out]; simp⟩
            case measure => simp [intOf]; omega
          · rw [hq] at HPK
            rintro e w' ⟨rfl, rfl⟩
            have hb1 : a + (f (p * 8 + j)).1 < 9007199254740992 := by have := HM.out; rw [HPK.out] at this; simp at this; have := HS'.out; omega
            have hb2 : b + (f (p * 8 + j)).2 < 9007199254740992 := by have := HM.out; rw [HPK.out] at this; simp at this; have := HS'.out; omega
            have CS := fun W : World => run_complex_sum (P := Try.prog) W .add (.inl rfl) 24 .f64 _ _ _ _ _ _ (csum a b (f (p * 8 + j)).1 (f (p * 8 + j)).2 hb1 hb2)
            clear hb1 hb2
            go_wp2_with fail
            go_round
            case rel => exact ⟨j + 1, by omega, by go_num, by rw [show p * 8 + (j + 1) = p * 8 + j + 1 by omega, HSUM.out, HPK.out]; simp⟩
            case measure => simp [intOf]; omega
        · have ej : j = 8 := by omega
          subst ej
          go_wp2_with fail
          go_round
          case rel => exact ⟨p + 1, by omega, by go_num, by rw [show (p + 1) * 8 = p * 8 + 8 by omega]⟩
          case measure => simp [intOf]; omega
    · have ep : p = 16 := by omega
      subst ep
      go_wp2_with fail
      go_ret
      exact ⟨rfl, rfl⟩
end Go.Proofs.Ytphicjokogljcaa
