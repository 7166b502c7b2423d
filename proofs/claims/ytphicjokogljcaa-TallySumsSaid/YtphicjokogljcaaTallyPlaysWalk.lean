/-
  The walk of the law TallyPlays.
-/
import Derived.Test.YtphicjokogljcaaTallyDo
namespace Go.Proofs.Ytphicjokogljcaa
open Go.RowKit
set_option linter.unusedVariables false

theorem both_new {w0 w1 w2 : World} {n : Nat} (ht : TallyAt w1 w0.heap.size n (fun _ => (0, 0))) (hb : Below w0.heap.size w0 w1) (hr : RefT w2 w1.heap.size w1.heap.size n none 0 []) (hb2 : Below w1.heap.size w1 w2) : Both w0 w2 w0.heap.size w1.heap.size w1.heap.size n 0 (fun _ => (0, 0)) none 0 [] :=
  ⟨⟨ht.keep (hb2.block _ ht.lt), hr, ht.lt, Nat.le_refl _, hb.trans (hb2.mono hb.size)⟩, Books.nil n, Nat.le_refl _⟩

set_option maxHeartbeats 8000000 in
set_option maxRecDepth 100000 in
theorem tallyPlays_bad (peers : Int) (a : Option Addr) (len cap : Nat) (w : World) (hp : peers < 1 ∨ 16 < peers) :
    Calls Try.prog 5 #[.int .i64 peers, .slice a len cap] w fun e w' => e = .returned (.bool true) ∧ Below w.heap.size w w' := by
  have HP := Lib.hid hp
  clear hp
  go_enter Try.func5, Try.ntmps5
  go_wp2_with fail
  refine (new_bad peers _ HP.out).mono ?_
  rintro e w1 ⟨rfl, rfl⟩
  go_wp2_with fail
  refine (rnew_bad peers _ HP.out).mono ?_
  rintro e w1 ⟨rfl, rfl⟩
  go_wp2_with fail
  go_loop [9] (fun i => i = .int .i64 0) (fun _ => 0)
  case atStart => rfl
  case round =>
    obtain rfl := hrel
    by_cases h0 : (0 : Int) < len
    all_goals
      go_wp2_with fail
      refine (tworks_any _).mono ?_
      rintro e w1 ⟨rfl, hb⟩
      go_wp2_with fail
      go_ret
      exact ⟨rfl, hb⟩

set_option maxHeartbeats 8000000 in
set_option maxRecDepth 100000 in
theorem tallyPlays_good (n : Nat) (a : Option Addr) (len cap : Nat) (w : World) (hp : 1 ≤ n ∧ n ≤ 16) (ha : Acts w a len) (hl : len ≤ 9223372036854775807) :
    Calls Try.prog 5 #[.int .i64 n, .slice a len cap] w fun e w' => e = .returned (.bool true) ∧ Below w.heap.size w w' := by
  have HA := Lib.hid ha
  have HP := Lib.hid hp
  clear ha hp
  go_enter Try.func5, Try.ntmps5
  go_wp2_with fail
  refine (new_any n _ (by have := HP.out; omega) (by have := HP.out; omega)).mono ?_
  rintro e w1 ⟨rfl, ht, hb⟩
  go_wp2_with fail
  refine (rnew_any n _ (by have := HP.out; omega) (by have := HP.out; omega)).mono ?_
  rintro e w2 ⟨rfl, hr, hb2⟩
  have hst := Lib.hid (both_new ht hb hr hb2)
  clear ht hb hr hb2
  go_wp2_with fail
  generalize w1.heap.size = h at *
  go_loopw [9] (fun i wr => ∃ (k : Nat) (f : Counts) (A : Option Addr) (c : Nat) (L : List Cnt), k ≤ 60 ∧ i = .int .i64 k ∧ Both w wr w.heap.size h h n k f A c L) (fun i _ => 60 - (intOf i).toNat)
  case atStart => exact ⟨0, _, _, _, _, by omega, rfl, hst.out⟩
  case round =>
    obtain ⟨k, f, A, c, L, hk, rfl, hb⟩ := hrel
    clear hst
    have HB := Lib.hid hb
    clear hb
    by_cases hkl : (k : Int) < len ∧ (k : Int) < 60
    · obtain ⟨q1, q2⟩ := hkl
      rcases HA.out with h0 | ⟨b, off, rfl, hact⟩
      · omega
      obtain ⟨x0, x1, x2, x3, x4, c0, c1, c2, c3, c4⟩ := hact k (by omega)
      clear hact
      replace c0 := keep_below HB.out.bel _ _ c0
      replace c1 := keep_below HB.out.bel _ _ c1
      replace c2 := keep_below HB.out.bel _ _ c2
      replace c3 := keep_below HB.out.bel _ _ c3
      replace c4 := keep_below HB.out.bel _ _ c4
      have hst := HB.out.below ((Below.refl _ _).alloc (Nat.le_refl _) (.cells #[.int .i64 x0, .int .i64 x1, .int .i64 x2, .int .i64 x3, .int .i64 x4] 42))
      have haw := away_new HB.out.toTwo 42 #[.int .i64 x0, .int .i64 x1, .int .i64 x2, .int .i64 x3, .int .i64 x4]
      go_wp2_with fail
      generalize wr.alloc (.cells #[.int .i64 x0, .int .i64 x1, .int .i64 x2, .int .i64 x3, .int .i64 x4] 42) = w3 at *
      generalize wr.heap.size = G at *
      clear HB c0 c1 c2 c3 c4
      have HW := Lib.hid haw
      have d0 := haw.blk.cell 0
      have d1 := haw.blk.cell 1
      have d2 := haw.blk.cell 2
      have d3 := haw.blk.cell 3
      have d4 := haw.blk.cell 4
      simp only [List.getElem?_toArray, List.getElem?_cons_zero, List.getElem?_cons_succ] at d0 d1 d2 d3 d4
      have HS := Lib.hid hst
      clear haw hst
      go_wp2_with fail
      refine (do_any w w.heap.size h h n k f A c L x0 x1 x2 x3 x4 _ HS.out (by omega)).mono ?_
      rintro e w4 ⟨rfl, ⟨f4, A4, c4, L4, hb4⟩, hbx⟩
      have hB4 := hbx _ _ _ HW.out
      clear hbx HW HS d0 d1 d2 d3 d4
      have d1 := hB4.cell 1
      have d2 := hB4.cell 2
      simp only [List.getElem?_toArray, List.getElem?_cons_zero, List.getElem?_cons_succ] at d1 d2
      have HB4 := Lib.hid hb4
      have HX4 := Lib.hid hB4
      have FW : Hid (FewC L4) := hb4.bk.few (by have := hb4.few; omega)
      have n16 := hb4.n16
      clear hb4 hB4
      go_wp2_with fail
      refine (tget_any w.heap.size n x1 x2 f4 _ HB4.out.t).mono ?_
      have JOIN : Hid (∀ (w5 : World) (s11 s12 s13 s14 : Value), Below w4.heap.size w4 w5 → Both w w5 w.heap.size h h n (k + 1) f4 A4 c4 L4) := fun w5 _ _ _ _ hb => HB4.out.below hb
      by_cases hs : 0 ≤ x1 ∧ 0 ≤ x2
      · obtain ⟨s1, s2⟩ := hs
        rw [books_get HB4.out.bk n16 x1 x2 s1 s2]
        obtain ⟨u, EU⟩ : ∃ z, Hid ((rsum x1 x2 L4).1 = z) := ⟨_, rfl⟩
        obtain ⟨v, EV⟩ : ∃ z, Hid ((rsum x1 x2 L4).2 = z) := ⟨_, rfl⟩
        rw [EU.out, EV.out]
        rintro e w5 ⟨rfl, rfl⟩
        go_wp2_with fail
        refine (rsum_any h h c4 n A4 L4 x1 x2 _ HB4.out.r FW.out).mono ?_
        rw [EU.out, EV.out]
        rintro e w5 ⟨rfl, hb5⟩
        replace HB4 := Lib.hid (HB4.out.below hb5)
        clear EU EV JOIN hb5 d1 d2 HX4
        go_wp2_with fail
        go_loopw [15] (fun j wr2 => ∃ q : Nat, q ≤ 16 ∧ j = .int .i64 q ∧ Both w wr2 w.heap.size h h n (k + 1) f4 A4 c4 L4) (fun j _ => 16 - (intOf j).toNat)
        case atStart => exact ⟨0, by omega, rfl, HB4.out⟩
        case round =>
          obtain ⟨q, hq16, rfl, hbq⟩ := hrel
          have HQ := Lib.hid hbq
          clear hbq HB4
          by_cases hlt : q < 16
          · have hlt' : (q : Int) < 16 := by omega
            have EQ := Lib.hid (books_peer HQ.out.bk q hlt)
            have SM : Hid (Small (psum (picked (fun p _ => ((p : Int) == (q : Int))) f4) 128)) := by
              show Small _
              rw [EQ.out]
              exact few_small FW.out _ _
            go_wp2_with fail
            refine (peer_any w.heap.size n q f4 _ HQ.out.t SM.out).mono ?_
            rw [EQ.out]
            obtain ⟨u, EU⟩ : ∃ z, Hid ((rsum q (-1) L4).1 = z) := ⟨_, rfl⟩
            obtain ⟨v, EV⟩ : ∃ z, Hid ((rsum q (-1) L4).2 = z) := ⟨_, rfl⟩
            rw [EU.out, EV.out]
            rintro e w6 ⟨rfl, hb6⟩
            replace HQ := Lib.hid (HQ.out.below hb6)
            clear hb6
            go_wp2_with fail
            refine (rsum_any h h c4 n A4 L4 q (-1) _ HQ.out.r FW.out).mono ?_
            rw [EU.out, EV.out]
            rintro e w7 ⟨rfl, hb7⟩
            replace HQ := Lib.hid (HQ.out.below hb7)
            clear hb7 EU EV EQ SM
            go_wp2_with fail
            go_roundw
            case rel => exact ⟨q + 1, by omega, by go_num, HQ.out⟩
            case measure => simp [intOf]; omega
          · go_wp2_with fail
            go_roundw
            case rel => exact ⟨k + 1, _, _, _, _, by omega, by go_num, HQ.out⟩
            case measure => simp [intOf]; omega
      · have E0 : Hid (getIn n f4 x1 x2 = (0, 0)) := get_out x1 x2 (by omega)
        rw [E0.out]
        rintro e w5 ⟨rfl, rfl⟩
        clear JOIN HX4
        by_cases s1 : 0 ≤ x1
        all_goals
          first | (have s2 : ¬ 0 ≤ x2 := fun h => hs ⟨s1, h⟩) | skip
          clear hs
          go_wp2_with fail
          go_loopw [15] (fun j wr2 => ∃ q : Nat, q ≤ 16 ∧ j = .int .i64 q ∧ Both w wr2 w.heap.size h h n (k + 1) f4 A4 c4 L4) (fun j _ => 16 - (intOf j).toNat)
          case atStart => exact ⟨0, by omega, rfl, HB4.out⟩
          case round =>
            obtain ⟨q, hq16, rfl, hbq⟩ := hrel
            have HQ := Lib.hid hbq
            clear hbq HB4
            by_cases hlt : q < 16
            · have hlt' : (q : Int) < 16 := by omega
              have EQ := Lib.hid (books_peer HQ.out.bk q hlt)
              have SM : Hid (Small (psum (picked (fun p _ => ((p : Int) == (q : Int))) f4) 128)) := by
                show Small _
                rw [EQ.out]
                exact few_small FW.out _ _
              go_wp2_with fail
              refine (peer_any w.heap.size n q f4 _ HQ.out.t SM.out).mono ?_
              rw [EQ.out]
              obtain ⟨u, EU⟩ : ∃ z, Hid ((rsum q (-1) L4).1 = z) := ⟨_, rfl⟩
              obtain ⟨v, EV⟩ : ∃ z, Hid ((rsum q (-1) L4).2 = z) := ⟨_, rfl⟩
              rw [EU.out, EV.out]
              rintro e w6 ⟨rfl, hb6⟩
              replace HQ := Lib.hid (HQ.out.below hb6)
              clear hb6
              go_wp2_with fail
              refine (rsum_any h h c4 n A4 L4 q (-1) _ HQ.out.r FW.out).mono ?_
              rw [EU.out, EV.out]
              rintro e w7 ⟨rfl, hb7⟩
              replace HQ := Lib.hid (HQ.out.below hb7)
              clear hb7 EU EV EQ SM
              go_wp2_with fail
              go_roundw
              case rel => exact ⟨q + 1, by omega, by go_num, HQ.out⟩
              case measure => simp [intOf]; omega
            · go_wp2_with fail
              go_roundw
              case rel => exact ⟨k + 1, _, _, _, _, by omega, by go_num, HQ.out⟩
              case measure => simp [intOf]; omega
    · have BB := Lib.hid HB.out.bel
      have SZ := Lib.hid HB.out.hlt
      clear HB
      by_cases q : (k : Int) < len
      · have q' : ¬ (k : Int) < 60 := by omega
        clear hkl
        go_wp2_with fail
        refine (tworks_any _).mono ?_
        rintro e w1 ⟨rfl, hb⟩
        go_wp2_with fail
        go_ret
        exact ⟨rfl, BB.out.trans (hb.mono SZ.out)⟩
      · clear hkl
        go_wp2_with fail
        refine (tworks_any _).mono ?_
        rintro e w1 ⟨rfl, hb⟩
        go_wp2_with fail
        go_ret
        exact ⟨rfl, BB.out.trans (hb.mono SZ.out)⟩
theorem tallyPlays_walk (peers : Int) (a : Option Addr) (len cap : Nat) (w : World) (ha : Acts w a len) (hl : len ≤ 9223372036854775807) :
    Calls Try.prog 5 #[.int .i64 peers, .slice a len cap] w fun e w' => e = .returned (.bool true) ∧ Below w.heap.size w w' := by
  by_cases h : peers < 1 ∨ 16 < peers
  · exact tallyPlays_bad peers a len cap w h
  · obtain ⟨n, rfl⟩ := Int.eq_ofNat_of_zero_le (show 0 ≤ peers by omega)
    exact tallyPlays_good n a len cap w (by omega) ha hl
end Go.Proofs.Ytphicjokogljcaa
