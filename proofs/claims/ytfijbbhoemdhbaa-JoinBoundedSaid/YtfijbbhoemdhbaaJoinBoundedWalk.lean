/-
  The walk of the law JoinBounded.
-/
import Derived.Test.YtfijbbhoemdhbaaPlainJoin2
import Derived.Test.YtfijbbhoemdhbaaActs
import Derived.StillTailTactics
namespace Go.Proofs.Ytfijbbhoemdhbaa
open Go.RowKit

theorem ActAt.keep {w w' : World} {b off i : Nat} (h : ActAt w b off i) (hk : ∀ a v, w.cell? a = some v → w'.cell? a = some v) : ActAt w' b off i := by
  obtain ⟨d, n, t, A, c, bs, h0, h1, h2, h3, hs, r⟩ := h
  exact ⟨d, n, t, A, c, bs, hk _ _ h0, hk _ _ h1, hk _ _ h2, hk _ _ h3, hs.keep hk, r⟩

set_option maxHeartbeats 4000000 in
set_option maxRecDepth 100000 in
theorem joinBounded_walk (next room : Int) (a : Option Addr) (len cap : Nat) (w : World) (n0 : 0 ≤ next) (n1 : next < 4294967296) (ha : Acts w a len) (hl : len ≤ 9223372036854775807) :
    Calls Try.prog 5 #[.int .u32 next, .int .i64 room, .slice a len cap] w fun e w' => e = .returned (.bool true) ∧ Below w.heap.size w w' := by
  have HA := Lib.hid ha
  clear ha
  go_enter Try.func5, Try.ntmps5
  go_wp2_with fail
  refine (works_any _).mono ?_
  rintro e w1 ⟨rfl, hb⟩
  go_wp2_with fail
  refine (among_any room 60 _ (by omega) (by omega)).mono ?_
  rintro e w2 ⟨rfl, rfl⟩
  have hm := among_bd room 60 (by omega)
  generalize among room 60 = rm at hm ⊢
  go_wp2_with fail
  obtain ⟨rn, rfl⟩ := Int.eq_ofNat_of_zero_le hm.1
  have e1 : (1 : Int) + rn = ((1 + rn : Nat) : Int) := by omega
  rw [e1]
  refine (jnew_any next (1 + rn) _ n0 n1 (by omega) (by omega)).mono ?_
  rintro e w2 ⟨g, R, T, rfl, hj, hb2, h1, h2, h3⟩
  have hi := Lib.hid (JIn.of_new hb hb.size hj hb2 h1 h2 h3)
  clear hj hb hb2 h1 h2 h3 e1
  go_wp2_with fail
  go_loopw [9] (fun i wr => ∃ k : Nat, k ≤ 40 ∧ i = .int .i64 k ∧ ∃ A c s, JIn w.heap.size w wr g R T A c s ∧ now s = false ∧ s.ring.length = 1 + rn) (fun i _ => 40 - (intOf i).toNat)
  case atStart => exact ⟨0, Nat.zero_le _, rfl, none, 0, _, hi.out, by simp [now, newS, List.getD_eq_getElem?_getD, List.getElem?_replicate]; split <;> rfl, by simp [newS]⟩
  case round =>
    obtain ⟨k, hk, rfl, A, c, s, hj, hnow, hring⟩ := hrel
    by_cases hkl : (k : Int) < len ∧ (k : Int) < 40
    · obtain ⟨q1, q2⟩ := hkl
      rcases HA.out with h0 | ⟨b, off, rfl, hact⟩
      · omega
      obtain ⟨d, n, t, B, bc, bs, c0, c1, c2, c3, hs, wd, wn, wt⟩ := hact k (by omega)
      replace c0 := keep_below hj.bel _ _ c0
      replace c1 := keep_below hj.bel _ _ c1
      replace c2 := keep_below hj.bel _ _ c2
      replace c3 := keep_below hj.bel _ _ c3
      have BL : Hid (∀ a, B = some a → 0 < bs.length → ¬ JF g R T A a.block) := by
        intro a ea hp hf
        obtain ⟨b', off', e', hc'⟩ := hs.1.at_ hp
        rw [e'] at ea
        injection ea with ea
        subst ea
        have i1 := hj.big _ hf
        have i2 := World.block_lt_of_cell? w _ (hc' 0 hp)
        simp at i1 i2
        omega
      replace hs := hs.below hj.bel
      have HJ := Lib.hid hj
      clear hj hact
      go_wp2_with fail
      have hj := (HJ.out.alloc (.cells #[.int .i64 d, .int .i64 n, .int .u32 t, .slice B bs.length bc] 48)).below ((Drawn.below ⟨1, rfl⟩ _))
      have hbl := (blk_new wr 48 #[.int .i64 d, .int .i64 n, .int .u32 t, .slice B bs.length bc]).keep (w' := (wr.alloc (.cells #[.int .i64 d, .int .i64 n, .int .u32 t, .slice B bs.length bc] 48)).drewN 1) rfl
      have hs' := (hs.below ((Below.refl _ _).alloc (Nat.le_refl _) (.cells #[.int .i64 d, .int .i64 n, .int .u32 t, .slice B bs.length bc] 48))).drawn ⟨1, rfl⟩
      have hap : Hid (∀ j, JF g R T A j → j ≠ wr.heap.size) := fun j hf e => by have := HJ.out.at_.jf_lt j hf; omega
      have hdr : (wr.alloc (.cells #[.int .i64 d, .int .i64 n, .int .u32 t, .slice B bs.length bc] 48)).drewN 1 = { (wr.alloc (.cells #[.int .i64 d, .int .i64 n, .int .u32 t, .slice B bs.length bc] 48)) with drawn := (wr.alloc (.cells #[.int .i64 d, .int .i64 n, .int .u32 t, .slice B bs.length bc] 48)).drawn + 1 } := rfl
      refine wp_region_still_tail 13 (by kernel_rfl) (by kernel_rfl) ?_
      rw [← hdr]
      clear hdr
      generalize (wr.alloc (.cells #[.int .i64 d, .int .i64 n, .int .u32 t, .slice B bs.length bc] 48)).drewN 1 = w3 at *
      generalize wr.heap.size = G at *
      clear HJ hs c0 c1 c2 c3
      have c0 := hbl.cell 0
      have c1 := hbl.cell 1
      have c2 := hbl.cell 2
      have c3 := hbl.cell 3
      simp only [List.getElem?_toArray, List.getElem?_cons_zero, List.getElem?_cons_succ] at c0 c1 c2 c3
      have HB := Lib.hid hbl
      have HJ := Lib.hid hj
      clear hj hbl
      simp only [List.take_succ_cons, List.take_zero, List.drop_succ_cons, List.drop_zero]
      have l1 := hs'.2.1
      have l2 := hs'.2.2.1
      have hm2 : Hid ((bs.take 60).length = min bs.length 60) := by show _ = _; simp [Nat.min_comm]
      have mi : ∃ m : Nat, m = min bs.length 60 ∧ (if (60 : Int) < (bs.length : Int) then 60 else (bs.length : Int)) = (m : Int) ∧ m ≤ bc ∧ m ≤ bs.length := ⟨_, rfl, by split <;> omega, by omega, by omega⟩
      obtain ⟨m, em, em2, em3, em4⟩ := mi
      replace em := Lib.hid em
      have hn0 := HJ.out.at_.inv.n0
      have hn1 := HJ.out.at_.inv.n1
      have ht := bounds_u32 wt
      still_step
      still_step
      still_call ((next_any HJ.out.at_).mono fun _ _ h => ⟨h.1, h.2.symm⟩)
      repeat still_step
      refine wpStill_nil ?_
      clear em2
      have EM : Hid ((bs.take 60).length = m) := by show _ = _; rw [hm2.out, em.out]
      have HS := Lib.hid (hs'.take 60)
      have BL2 : Hid (∀ a, B = some a → 0 < (bs.take 60).length → ¬ JF g R T A a.block) := fun a ea hp => BL.out a ea (by rw [List.length_take] at hp; omega)
      have L6 : Hid ((bs.take 60).length ≤ 65536) := by show _ ≤ _; rw [List.length_take]; omega
      clear hm2 em em3 em4 hs' l1 l2 BL
      generalize bs.take 60 = xs at *
      go_wp2_with fail
      refine (add_in HJ.out _ (by omega) (by omega) B xs _ _ EM.out HS.out.1 BL2.out L6.out).mono ?_
      rintro e w4 ⟨k2, A2, c2', rfl, hj4, hF, hn4, t1, t2⟩
      have hr4 : (runS k2 (addS s ((s.next + t) % 4294967296) xs)).ring.length = 1 + rn := by rw [runS_ring, addS_ring]; exact hring
      have hB4 := HB.out.keep (hF.block G HB.out.lt (fun hf => hap.out G hf rfl))
      have hap4 : Hid (∀ j, JF g R T A2 j → j ≠ G) := fun j hf e => by
        rcases hn4 j hf with h1 | h1
        · exact hap.out j h1 e
        · have := HB.out.lt; omega
      clear HJ HS BL2 L6 EM HB hF hn4 hn0 hn1 c0 c1 c2 c3 hap
      generalize runS k2 (addS s ((s.next + t) % 4294967296) xs) = s4 at *
      clear hnow hring t1
      have RL := Lib.hid (room_le s4 hj4.at_.inv)
      have hh := held_le s4 hj4.at_.inv
      have hf4 := hj4.at_.inv.few
      rw [hr4] at hh hf4
      have hgt : ¬ (((1 + rn : Nat) : Int) < (s4.ready.length : Int) + s4.held) := by have := RL.out; rw [hr4] at this; omega
      rw [Int.natCast_add] at hgt
      go_wp2_with fail
      refine (ready_any hj4.at_).mono ?_
      rintro e w5 ⟨rfl, rfl⟩
      go_wp2_with fail
      refine (held_any hj4.at_).mono ?_
      rintro e w5 ⟨rfl, rfl⟩
      go_wp2_with fail
      refine (window_any hj4.at_).mono ?_
      rintro e w5 ⟨rfl, hd⟩
      replace hj4 := hj4.below (hd.below _)
      replace hB4 := hB4.keep ((hd.below (w4.heap.size)).block G hB4.lt)
      rw [hr4]
      clear hd
      go_wp2_with fail
      refine (ready_any hj4.at_).mono ?_
      rintro e w6 ⟨rfl, rfl⟩
      go_wp2_with fail
      refine (next_any hj4.at_).mono ?_
      rintro e w6 ⟨rfl, rfl⟩
      go_wp2_with fail
      refine (ready_any hj4.at_).mono ?_
      rintro e w6 ⟨rfl, rfl⟩
      go_wp2_with fail
      refine (held_any hj4.at_).mono ?_
      rintro e w6 ⟨rfl, rfl⟩
      go_wp2_with fail
      refine (window_any hj4.at_).mono ?_
      rintro e w6 ⟨rfl, hd⟩
      replace hj4 := hj4.below (hd.below _)
      replace hB4 := hB4.keep ((hd.below (w5.heap.size)).block G hB4.lt)
      rw [hr4]
      clear hd
      go_wp2_with fail
      have eW : (1 + (rn : Int) - s4.ready.length) = ((window s4 : Nat) : Int) := by unfold window; rw [hr4]; omega
      rw [eW]
      refine (add_in (hj4.alloc _) _ (by omega) (by omega) _ [1, 2, 3] _ _ rfl (bs_lit w6 [1, 2, 3]) (hj4.apart _) (by decide)).mono ?_
      rintro e w7 ⟨k3, A3, c3', rfl, hj7, hF, hn7, t1, _⟩
      rw [add_outside s4 hj4.at_.inv [1, 2, 3] (by decide)] at t1 hj7
      obtain rfl := now_zero t2 t1
      replace hj7 : JIn w.heap.size w w7 g R T A3 c3' s4 := hj7
      have hB7 := (blk_old hB4 (.cells #[.int .u8 1, .int .u8 2, .int .u8 3] 5)).keep (hF.block G (by have := hB4.lt; simp; omega) (fun hf => hap4.out G hf rfl))
      have hap7 : Hid (∀ j, JF g R T A3 j → j ≠ G) := fun j hf e => by
        rcases hn7 j hf with h1 | h1
        · exact hap4.out j h1 e
        · have := hB4.lt; simp at h1; omega
      clear hj4 hB4 hF hn7 t1 hap4
      have c0 := hB7.cell 0
      have c1 := hB7.cell 1
      simp only [List.getElem?_toArray, List.getElem?_cons_zero, List.getElem?_cons_succ] at c0 c1
      go_wp2_with fail
      refine (next_any hj7.at_).mono ?_
      rintro e w8 ⟨rfl, rfl⟩
      go_wp2_with fail
      refine (ready_any hj7.at_).mono ?_
      rintro e w8 ⟨rfl, rfl⟩
      go_wp2_with fail
      refine (held_any hj7.at_).mono ?_
      rintro e w8 ⟨rfl, rfl⟩
      go_wp2_with fail
      refine (among_any d 5 _ (by omega) (by omega)).mono ?_
      rintro e w8 ⟨rfl, rfl⟩
      have b5 := among_bd d 5 (by omega)
      generalize among d 5 = dd at *
      by_cases h4 : dd = 4
      · subst h4
        go_wp2_with fail
        refine (among_any n 20 _ (by omega) (by omega)).mono ?_
        rintro e w8 ⟨rfl, rfl⟩
        have b6 := among_bd n 20 (by omega)
        generalize among n 20 = nn at *
        go_wp2_with fail
        refine (read_in hj7 nn b6.1).mono ?_
        rintro e w9 ⟨A9, c9, D9, d9, rfl, hj9, _, _, _⟩
        go_wp2_with fail
        go_roundw
        case rel => exact ⟨k + 1, by omega, by go_num, _, _, _, hj9, t2, hr4⟩
        case measure => simp [intOf]; omega
      · go_wp2_with fail
        go_roundw
        case rel => exact ⟨k + 1, by omega, by go_num, _, _, _, hj7, t2, hr4⟩
        case measure => simp [intOf]; omega
    · have BB := hj.bel
      clear hj
      by_cases q : (k : Int) < len
      · have q' : ¬ (k : Int) < 40 := by omega
        clear hkl
        go_wp2_with fail
        go_ret
        exact ⟨rfl, BB⟩
      · clear hkl
        go_wp2_with fail
        go_ret
        exact ⟨rfl, BB⟩
end Go.Proofs.Ytfijbbhoemdhbaa
