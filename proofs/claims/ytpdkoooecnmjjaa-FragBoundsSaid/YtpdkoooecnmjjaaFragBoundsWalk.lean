/-
  The walk of the law FragBounds.
-/
import Derived.Test.YtpdkoooecnmjjaaFragW
import Derived.Test.YtpdkoooecnmjjaaOpensFrag
namespace Go.Proofs.Ytpdkoooecnmjjaa
open Go.RowKit
set_option linter.unusedVariables false

set_option maxHeartbeats 8000000 in
set_option maxRecDepth 100000 in
theorem fragBounds_walk (wait : Int) (a : Option Addr) (len cap : Nat) (w : World) (ha : Acts w a len) (hl : len ≤ 9223372036854775807) :
    Calls Try.prog 3 #[.int .i64 wait, .slice a len cap] w fun e w' => e = .returned (.bool true) ∧ Below w.heap.size w w' := by
  have HA := Lib.hid ha
  clear ha
  go_enter Try.func3, Try.ntmps3
  go_wp2_with fail
  refine (works_any _).mono ?_
  rintro e w1 ⟨rfl, hb⟩
  have HB1 := Lib.hid hb
  clear hb
  go_wp2_with fail
  refine (among_any wait 50 _ (by omega) (by omega)).mono ?_
  rintro e w2 ⟨rfl, rfl⟩
  have hm := among_bd wait 50 (by omega)
  generalize among wait 50 = wt0 at hm ⊢
  obtain ⟨hm0, hm1⟩ := hm
  go_wp2_with fail
  obtain ⟨wt, EWT⟩ : ∃ z, Hid (1 + wt0 = z) := ⟨_, rfl⟩
  rw [EWT.out]
  have g0 : 1 ≤ wt := by have := EWT.out; omega
  have g1 : wt ≤ 50 := by have := EWT.out; omega
  clear hm0 hm1 EWT
  refine (fnew_any wt _ g0 (by omega)).mono ?_
  rintro e w2 ⟨rfl, t2, hb⟩
  have HS0 : Hid (BndS w w1.heap.size w1.heap.size wt 0 0 0 w2) := ⟨by omega, by omega, by omega, HB1.out.trans (hb.mono HB1.out.size), HB1.out.size, 0, none, 0, [], by omega, t2, by simp, fun x hx => by cases hx⟩
  clear t2 hb
  obtain ⟨tb, ETB⟩ : ∃ z, Hid (w1.heap.size = z) := ⟨_, rfl⟩
  rw [ETB.out] at HS0 ⊢
  clear ETB HB1
  go_wp2_with fail
  go_loopw [7, 8, 9] (fun vn vl vi wr => ∃ (k : Nat) (nw ls : Int), k ≤ 80 ∧ vi = .int .i64 k ∧ vn = .int .i64 nw ∧ vl = .int .i64 ls ∧ BndS w tb tb wt nw ls k wr) (fun _ _ i _ => 80 - (intOf i).toNat)
  case atStart => exact ⟨0, 0, 0, by omega, rfl, rfl, rfl, HS0.out⟩
  case round =>
    obtain ⟨k, nw, ls, hk, rfl, rfl, rfl, s⟩ := hrel
    have HS := Lib.hid s
    have q0 := s.n0
    have q1 := s.n1
    have q2 := s.n2
    clear s
    by_cases hkl : (k : Int) < len ∧ (k : Int) < 80
    · obtain ⟨k1, k2⟩ := hkl
      rcases HA.out with h0 | ⟨b, off, rfl, hact⟩
      · omega
      obtain ⟨d, n, z0, z1, z2, z3, z4, z5, z6, z7, D, bs, c, c0, c1, c2, c3, c4, c5, c6, c7, c8, c9, c10, hs⟩ := hact k (by omega)
      have kb := keep_below HS.out.bel
      replace c1 := kb _ _ c1
      replace c2 := kb _ _ c2
      replace c3 := kb _ _ c3
      replace c4 := kb _ _ c4
      replace c5 := kb _ _ c5
      replace c6 := kb _ _ c6
      replace c7 := kb _ _ c7
      replace c8 := kb _ _ c8
      replace c9 := kb _ _ c9
      replace c10 := kb _ _ c10
      have HSL := Lib.hid (hs.keep kb)
      clear hs hact kb c0
      obtain ⟨bl, EBL⟩ : ∃ z, Hid (bs.length = z) := ⟨_, rfl⟩
      rw [EBL.out] at c10
      go_wp2_with fail
      refine (among_any n 10 _ (by omega) (by omega)).mono ?_
      rintro e w3 ⟨rfl, rfl⟩
      have hm := among_bd n 10 (by omega)
      generalize among n 10 = dn at hm ⊢
      obtain ⟨hm0, hm1⟩ := hm
      obtain ⟨tm, ETM⟩ : ∃ z, Hid (nw + dn = z) := ⟨_, rfl⟩
      have htm : wrap64 (nw + dn) = tm := (IntWalk.wrap64_in _ ⟨by omega, by omega⟩).trans ETM.out
      go_wp2_with fail
      rw [ETM.out]
      clear htm
      have u0 : ls ≤ tm := by have := ETM.out; omega
      have u1 : tm ≤ 9 * ((k : Int) + 1) := by have := ETM.out; omega
      have u2 : nw ≤ tm := by have := ETM.out; omega
      refine (few_any z0 z1 z2 z3 z4 z5 z6 z7 D bs bl c wr EBL.out HSL.out).mono ?_
      rintro e w3 ⟨D', q', rfl, ho, hb⟩
      obtain ⟨n', A, c', L, hn, t, hL, hbg⟩ := HS.out.tab
      have hap := t.apart_new ho (Nat.le_refl _)
      have hfl : (bs.take 200).length ≤ 200 := by rw [List.length_take]; omega
      obtain ⟨fl, EFL⟩ : ∃ z, Hid ((bs.take 200).length = z) := ⟨_, rfl⟩
      have ADD := Lib.hid ((fadd_any (t.below hb) hL tm z0 z1 z2 z3 z4 z5 z6 z7 D' fl q' (bs.take 200) EFL.out (by have := EFL.out; omega) ho hap).mono fun _ _ h => add_bounds hL hbg (Int.le_trans hn u2) h)
      have HB3 := Lib.hid (HS.out.bel.trans (hb.mono HS.out.bel.size))
      have HBS := Lib.hid HS.out.base
      rw [EFL.out]
      clear c1 c2 c3 c4 c5 c6 c7 c8 c9 c10 hn t hL hbg hap hfl ho hb HSL EBL ETM hm0 hm1 HS
      go_wp2_with fail
      refine ADD.out.mono ?_
      rintro e w4 ⟨i1, i2, i3, i4, b1, b2, i5, i6, Dr, nr, qr, ok, er, rfl, hb4, nt, A4, c4, L4, hnt, t4, hL4, hor⟩
      have hb5 : Below w4.heap.size w4 (w4.alloc (.cells (pkV i1 i2 i3 i4 b1 b2 i5 i6 Dr nr qr) 33)) := (Below.refl _ _).alloc (Nat.le_refl _) _
      have HB4 := HB3.out.trans (hb4.mono HBS.out)
      have HB5 := Lib.hid (HB4.trans (hb5.mono HB4.size))
      have HT5 := Lib.hid (t4.below hb5)
      have HL4 := Lib.hid hL4
      have HNT := Lib.hid hnt
      have HOR := Lib.hid hor
      clear hb4 hb5 HB4 t4 hL4 hnt hor ADD
      go_upto_region 11 with fail
      generalize w4.alloc (.cells (pkV i1 i2 i3 i4 b1 b2 i5 i6 Dr nr qr) 33) = w5 at HB5 HT5 ⊢
      have LEN := Lib.hid (len_any HT5.out)
      obtain ⟨l4, EL4⟩ : ∃ z, Hid (L4.length = z) := ⟨_, rfl⟩
      rw [EL4.out] at LEN
      have l0 : ¬ (l4 : Int) < 0 := by omega
      have l8 : ¬ (8 : Int) < (l4 : Int) := by have := EL4.out; have := HL4.out; omega
      by_cases her : er = 0
      · subst her
        have NXT : Hid (BndS w tb tb wt tm tm (k + 1) w5) := ⟨by omega, Int.le_refl _, by omega, HB5.out, HBS.out, nt, A4, c4, L4, HNT.out, HT5.out, HL4.out, by
          rcases HOR.out with ⟨_, h⟩ | ⟨h, _⟩
          · exact h
          · exact absurd rfl h⟩
        go_wp2_with fail
        refine LEN.out.mono ?_
        rintro e w6 ⟨rfl, rfl⟩
        go_wp2_with fail
        refine LEN.out.mono ?_
        rintro e w6 ⟨rfl, rfl⟩
        go_wp2_with fail
        go_roundw
        case rel => exact ⟨k + 1, tm, tm, by omega, by go_num, rfl, rfl, NXT.out⟩
        case measure => simp [intOf]; omega
      · have ber : (er == 0) = false := by simpa using her
        have NXT : Hid (BndS w tb tb wt tm ls (k + 1) w5) := ⟨q0, u0, by omega, HB5.out, HBS.out, nt, A4, c4, L4, HNT.out, HT5.out, HL4.out, by
          rcases HOR.out with ⟨h, _⟩ | ⟨_, h⟩
          · exact absurd h her
          · exact h⟩
        clear her
        go_wp2_with fail
        refine LEN.out.mono ?_
        rintro e w6 ⟨rfl, rfl⟩
        go_wp2_with fail
        refine LEN.out.mono ?_
        rintro e w6 ⟨rfl, rfl⟩
        go_wp2_with fail
        go_roundw
        case rel => exact ⟨k + 1, tm, ls, by omega, by go_num, rfl, rfl, NXT.out⟩
        case measure => simp [intOf]; omega
    · obtain ⟨nt, A, c, L, hn, t, hL, hbg⟩ := HS.out.tab
      have LEN := Lib.hid (len_any t)
      obtain ⟨mx, EMX⟩ : ∃ z : Int, Hid ((if nw < ls + wt then ls + wt else nw) = z) := ⟨_, rfl⟩
      have m0 : nw ≤ mx := by have := EMX.out; split at this <;> omega
      have m1 : ls + wt ≤ mx := by have := EMX.out; split at this <;> omega
      have m2 : mx ≤ 1000 := by have := EMX.out; split at this <;> omega
      have hnil := all_old (wait := wt) hbg m1
      have AGE := fage_any t mx (by omega) (by omega) (by omega)
      rw [hnil] at AGE
      obtain ⟨ln, ELN⟩ : ∃ z, Hid (L.length = z) := ⟨_, rfl⟩
      rw [ELN.out, show (ln : Int) - (([] : List WX).length : Nat) = (ln : Int) by simp] at AGE
      rw [ELN.out] at LEN
      have HAG := Lib.hid AGE
      have HBL := Lib.hid HS.out.bel
      have HBB := Lib.hid (show ∀ k, TF tb A ln c k → w.heap.size ≤ k from fun k hk => Nat.le_trans HS.out.base (t.TFB k (by rw [ELN.out]; exact hk)))
      have HSZ := Lib.hid (show tb < wr.heap.size from t.lt)
      clear hn t hL hbg hnil AGE
      by_cases k1 : (k : Int) < len
      · have k2 : ¬ (k : Int) < 80 := fun h => hkl ⟨k1, h⟩
        clear hkl
        go_wp2_with fail
        refine LEN.out.mono ?_
        rintro e w6 ⟨rfl, rfl⟩
        have EMY := EMX.out
        go_wp2_with fail
        refine HAG.out.mono ?_
        rintro e w6 ⟨rfl, t6, hF⟩
        have HF := Lib.hid (hF.below HBL.out HBB.out (Nat.le_trans HBL.out.size (Nat.le_refl _)))
        have LEN6 : Calls Try.prog 10 #[.pointer (some ⟨tb, 0, none⟩)] w6 fun e w' => e = .returned (.int .i64 0) ∧ w6 = w' := len_any t6
        have LN6 := Lib.hid LEN6
        clear t6 hF LEN6 EMY
        go_wp2_with fail
        refine LN6.out.mono ?_
        rintro e w7 ⟨rfl, rfl⟩
        go_wp2_with fail
        go_ret
        exact ⟨rfl, HF.out⟩
      · clear hkl
        go_wp2_with fail
        refine LEN.out.mono ?_
        rintro e w6 ⟨rfl, rfl⟩
        have EMY := EMX.out
        go_wp2_with fail
        refine HAG.out.mono ?_
        rintro e w6 ⟨rfl, t6, hF⟩
        have HF := Lib.hid (hF.below HBL.out HBB.out (Nat.le_trans HBL.out.size (Nat.le_refl _)))
        have LEN6 : Calls Try.prog 10 #[.pointer (some ⟨tb, 0, none⟩)] w6 fun e w' => e = .returned (.int .i64 0) ∧ w6 = w' := len_any t6
        have LN6 := Lib.hid LEN6
        clear t6 hF LEN6 EMY
        go_wp2_with fail
        refine LN6.out.mono ?_
        rintro e w7 ⟨rfl, rfl⟩
        go_wp2_with fail
        go_ret
        exact ⟨rfl, HF.out⟩
end Go.Proofs.Ytpdkoooecnmjjaa
