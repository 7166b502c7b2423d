/-
  The walk of the law TallySums.
-/
import Derived.Test.YtphicjokogljcaaTallyPlaysWalk
namespace Go.Proofs.Ytphicjokogljcaa
open Go.RowKit
set_option linter.unusedVariables false

theorem sum_step (f : Nat → Nat × Nat) (m j : Nat) (h : j < m) (hb : (psum f m).1 ≤ 257698037760 ∧ (psum f m).2 ≤ 257698037760) :
    psum f (j + 1) = ((psum f j).1 + (f j).1, (psum f j).2 + (f j).2) ∧ (psum f j).1 + (f j).1 ≤ 257698037760 ∧ (psum f j).2 + (f j).2 ≤ 257698037760 := by
  have h1 := psum_mono f (show j + 1 ≤ m by omega)
  have e : psum f (j + 1) = ((psum f j).1 + (f j).1, (psum f j).2 + (f j).2) := rfl
  rw [e] at h1
  simp only at h1
  exact ⟨e, by omega, by omega⟩

set_option maxHeartbeats 8000000 in
set_option maxRecDepth 100000 in
theorem tallySums_walk (peers : Int) (a : Option Addr) (len cap : Nat) (w : World) (ha : Acts w a len) (hl : len ≤ 9223372036854775807) :
    Calls Try.prog 6 #[.int .i64 peers, .slice a len cap] w fun e w' => e = .returned (.bool true) ∧ Below w.heap.size w w' := by
  have HA := Lib.hid ha
  clear ha
  go_enter Try.func6, Try.ntmps6
  go_wp2_with fail
  refine (tworks_any _).mono ?_
  rintro e w0 ⟨rfl, hb0⟩
  have HB0 := Lib.hid hb0
  clear hb0
  go_wp2_with fail
  refine (among_any peers 16 _ (by omega) (by omega)).mono ?_
  rintro e w1 ⟨rfl, rfl⟩
  have hm := among_bd peers 16 (by omega)
  generalize among peers 16 = pm at hm ⊢
  go_wp2_with fail
  obtain ⟨rn, rfl⟩ := Int.eq_ofNat_of_zero_le hm.1
  have e1 : (1 : Int) + rn = ((1 + rn : Nat) : Int) := by omega
  rw [e1]
  have HP : Hid (1 ≤ 1 + rn ∧ 1 + rn ≤ 16) := by show _ ∧ _; omega
  clear e1 hm
  generalize 1 + rn = n at *
  refine (new_any n _ (by have := HP.out; omega) (by have := HP.out; omega)).mono ?_
  rintro e w1 ⟨rfl, ht, hb⟩
  go_wp2_with fail
  refine (rnew_any n _ (by have := HP.out; omega) (by have := HP.out; omega)).mono ?_
  rintro e w2 ⟨rfl, hr, hb2⟩
  have hst := Lib.hid (both_new ht hb hr hb2)
  clear ht hb hr hb2
  go_wp2_with fail
  generalize w1.heap.size = h at *
  go_loopw [9] (fun i wr => ∃ (k : Nat) (f : Counts) (A : Option Addr) (c : Nat) (L : List Cnt), k ≤ 60 ∧ i = .int .i64 k ∧ Both w0 wr w0.heap.size h h n k f A c L) (fun i _ => 60 - (intOf i).toNat)
  case atStart => exact ⟨0, _, _, _, _, by omega, rfl, hst.out⟩
  case round =>
    obtain ⟨k, f, A, c, L, hk, rfl, hb⟩ := hrel
    clear hst
    have HB := Lib.hid hb
    clear hb
    by_cases hkl : (k : Int) < len ∧ (k : Int) < 60
    · obtain ⟨q1, q2⟩ := hkl
      rcases HA.out with h0 | ⟨b, off, rfl, hact⟩
      · omega
      obtain ⟨x0, x1, x2, x3, x4, c0, c1, c2, c3, c4⟩ := hact k (by omega)
      clear hact
      have KB : Hid (∀ a v, w.cell? a = some v → wr.cell? a = some v) := fun a v hc => keep_below (HB0.out.trans (HB.out.bel.mono HB0.out.size)) a v hc
      replace c0 := KB.out _ _ c0
      replace c1 := KB.out _ _ c1
      replace c2 := KB.out _ _ c2
      replace c3 := KB.out _ _ c3
      replace c4 := KB.out _ _ c4
      go_wp2_with fail
      refine (do_any w0 w0.heap.size h h n k f A c L x0 x1 x2 x3 x4 _ HB.out (by omega)).mono ?_
      rintro e w4 ⟨rfl, ⟨f4, A4, c4, L4, hb4⟩, _⟩
      go_wp2_with fail
      go_roundw
      case rel => exact ⟨k + 1, _, _, _, _, by omega, by go_num, hb4⟩
      case measure => simp [intOf]; omega
    · have FW : Hid (FewC L) := HB.out.bk.few (by have := HB.out.few; omega)
      have n16 := HB.out.n16
      have HBK := Lib.hid HB.out.bk
      have SB := FW.out.sum (-1) (-1) L.length
      rw [List.take_length] at SB
      have K8 := Lib.hid (rsum_kinds (-1) L (fun c hc => (HBK.out.ok c hc).2.1))
      have K16 := Lib.hid (rsum_peers (-1) n L (fun c hc => (HBK.out.ok c hc).1))
      obtain ⟨X, EX⟩ : ∃ z, Hid ((rsum (-1) (-1) L).1 = z) := ⟨_, rfl⟩
      obtain ⟨Y, EY⟩ : ∃ z, Hid ((rsum (-1) (-1) L).2 = z) := ⟨_, rfl⟩
      have XY : Hid (X ≤ 257698037760 ∧ Y ≤ 257698037760) := by show _ ∧ _; rw [← EX.out, ← EY.out]; exact SB
      clear SB
      have S8 : Hid (∀ j, j < 8 → _) := fun j hj => sum_step (fun j : Nat => rsum (-1) j L) 8 j hj (by rw [K8.out, EX.out, EY.out]; exact XY.out)
      have S16 : Hid (∀ j, j < n → _) := fun j hj => sum_step (fun j : Nat => rsum j (-1) L) n j hj (by rw [K16.out, EX.out, EY.out]; exact XY.out)
      have CONT : Hid (k ≤ 60) := hk
      clear hk
      by_cases q : (k : Int) < len
      all_goals
        first | (have q' : ¬ (k : Int) < 60 := fun h => hkl ⟨q, h⟩) | skip
        clear hkl
        go_wp2_with fail
        go_loopw [10, 11, 14] (fun a b i wr2 => ∃ j : Nat, j ≤ 8 ∧ i = .int .i64 j ∧ a = .int .i64 (psum (fun j : Nat => rsum (-1) j L) j).1 ∧ b = .int .i64 (psum (fun j : Nat => rsum (-1) j L) j).2 ∧ Both w0 wr2 w0.heap.size h h n k f A c L) (fun _ _ i _ => 8 - (intOf i).toNat)
        case atStart => exact ⟨0, by omega, rfl, rfl, rfl, HB.out⟩
        case round =>
          obtain ⟨j, hj8, rfl, rfl, rfl, hbj⟩ := hrel
          have HJ := Lib.hid hbj
          clear hbj HB
          by_cases hlt : j < 8
          · have hlt' : (j : Int) < 8 := by omega
            have EQ := Lib.hid (books_kind HBK.out n16 j hlt)
            have SM : Hid (Small (psum (picked (fun _ i => ((i : Int) == (j : Int))) f) 128)) := by
              show Small _
              rw [EQ.out]
              exact few_small FW.out _ _
            obtain ⟨t1, t2, t3⟩ := S8.out j hlt
            obtain ⟨a0, EA⟩ : ∃ z, Hid ((psum (fun j : Nat => rsum (-1) j L) j).1 = z) := ⟨_, rfl⟩
            obtain ⟨b0, EB⟩ : ∃ z, Hid ((psum (fun j : Nat => rsum (-1) j L) j).2 = z) := ⟨_, rfl⟩
            obtain ⟨u, EU⟩ : ∃ z, Hid ((rsum (-1) j L).1 = z) := ⟨_, rfl⟩
            obtain ⟨v, EV⟩ : ∃ z, Hid ((rsum (-1) j L).2 = z) := ⟨_, rfl⟩
            simp only [EA.out, EB.out, EU.out, EV.out] at t1 t2 t3 ⊢
            have HT := Lib.hid t1
            have w1' : wrap64 ((a0 : Int) + (u : Int)) = ((a0 + u : Nat) : Int) := by rw [IntWalk.wrap64_in _ (by omega)]; omega
            have w2' : wrap64 ((b0 : Int) + (v : Int)) = ((b0 + v : Nat) : Int) := by rw [IntWalk.wrap64_in _ (by omega)]; omega
            clear t1 t2 t3
            go_wp2_with fail
            refine (kind_any w0.heap.size n j f _ HJ.out.t SM.out).mono ?_
            rw [EQ.out, EU.out, EV.out]
            rintro e w6 ⟨rfl, hb6⟩
            replace HJ := Lib.hid (HJ.out.below hb6)
            clear hb6
            go_wp2_with fail
            refine (rsum_any h h c n A L (-1) j _ HJ.out.r FW.out).mono ?_
            rw [EU.out, EV.out]
            rintro e w7 ⟨rfl, hb7⟩
            replace HJ := Lib.hid (HJ.out.below hb7)
            clear hb7 EQ SM
            go_wp2_with fail
            go_roundw
            case rel => exact ⟨j + 1, by omega, by go_num, by rw [w1', HT.out], by rw [w2', HT.out], HJ.out⟩
            case measure => simp [intOf]; omega
          · have ej : j = 8 := by omega
            subst ej
            rw [K8.out, EX.out, EY.out]
            clear hj8 hlt
            go_wp2_with fail
            go_loopw [12, 13, 19] (fun a b i wr2 => ∃ j : Nat, j ≤ n ∧ i = .int .i64 j ∧ a = .int .i64 (psum (fun j : Nat => rsum j (-1) L) j).1 ∧ b = .int .i64 (psum (fun j : Nat => rsum j (-1) L) j).2 ∧ Both w0 wr2 w0.heap.size h h n k f A c L) (fun _ _ i _ => n - (intOf i).toNat)
            case atStart => exact ⟨0, by omega, rfl, rfl, rfl, HJ.out⟩
            case round =>
              obtain ⟨j, hjn, rfl, rfl, rfl, hbj⟩ := hrel
              clear HJ
              have HJ := Lib.hid hbj
              clear hbj
              by_cases hlt : j < n
              · have hlt' : (j : Int) < n := by omega
                have EQ := Lib.hid (books_peer HBK.out j (by omega))
                have SM : Hid (Small (psum (picked (fun p _ => ((p : Int) == (j : Int))) f) 128)) := by
                  show Small _
                  rw [EQ.out]
                  exact few_small FW.out _ _
                obtain ⟨t1, t2, t3⟩ := S16.out j hlt
                obtain ⟨a0, EA⟩ : ∃ z, Hid ((psum (fun j : Nat => rsum j (-1) L) j).1 = z) := ⟨_, rfl⟩
                obtain ⟨b0, EB⟩ : ∃ z, Hid ((psum (fun j : Nat => rsum j (-1) L) j).2 = z) := ⟨_, rfl⟩
                obtain ⟨u, EU⟩ : ∃ z, Hid ((rsum j (-1) L).1 = z) := ⟨_, rfl⟩
                obtain ⟨v, EV⟩ : ∃ z, Hid ((rsum j (-1) L).2 = z) := ⟨_, rfl⟩
                simp only [EA.out, EB.out, EU.out, EV.out] at t1 t2 t3 ⊢
                have HT := Lib.hid t1
                have w1' : wrap64 ((a0 : Int) + (u : Int)) = ((a0 + u : Nat) : Int) := by rw [IntWalk.wrap64_in _ (by omega)]; omega
                have w2' : wrap64 ((b0 : Int) + (v : Int)) = ((b0 + v : Nat) : Int) := by rw [IntWalk.wrap64_in _ (by omega)]; omega
                clear t1 t2 t3
                go_wp2_with fail
                refine (peer_any w0.heap.size n j f _ HJ.out.t SM.out).mono ?_
                rw [EQ.out, EU.out, EV.out]
                rintro e w6 ⟨rfl, hb6⟩
                replace HJ := Lib.hid (HJ.out.below hb6)
                clear hb6 EQ SM
                go_wp2_with fail
                go_roundw
                case rel => first | exact ⟨j + 1, by omega, by go_num, by rw [w1', HT.out], by rw [w2', HT.out], HJ.out⟩ | ((repeat apply Exists.intro); exact ⟨⟨j + 1, by omega, by go_num, by rw [w1', HT.out], by rw [w2', HT.out], HJ.out⟩, rfl⟩)
                case measure => simp [intOf]; omega
              · have ej : j = n := by omega
                subst ej
                rw [K16.out, EX.out, EY.out]
                clear hjn hlt
                have EQ := Lib.hid (books_all HBK.out n16)
                have SM : Hid (Small (psum (picked (fun _ _ => true) f) 128)) := by
                  show Small _
                  rw [EQ.out]
                  exact few_small FW.out _ _
                have q1 := order_self X (by have := XY.out; omega)
                have q2 := order_self Y (by have := XY.out; omega)
                have e1 := floatOfInt_nat X
                have e2 := floatOfInt_nat Y
                go_wp2_with fail
                refine (all_any w0.heap.size j f _ HJ.out.t SM.out).mono ?_
                rw [EQ.out]
                unfold cx
                rw [EX.out, EY.out]
                rintro e w6 ⟨rfl, rfl⟩
                have FIN := Lib.hid (HB0.out.trans (HJ.out.bel.mono HB0.out.size))
                clear HJ EQ SM
                go_wp2_with fail
                go_ret
                exact ⟨rfl, FIN.out⟩
end Go.Proofs.Ytphicjokogljcaa
