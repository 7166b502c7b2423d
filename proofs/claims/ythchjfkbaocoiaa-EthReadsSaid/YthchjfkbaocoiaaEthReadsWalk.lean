/-
  The walk of the law EthReads.
-/
import Derived.Test.YthchjfkbaocoiaaEthM
namespace Go.Proofs.Ythchjfkbaocoiaa
open Go.RowKit
set_option linter.unusedVariables false

set_option maxHeartbeats 4000000 in
set_option maxRecDepth 100000 in
theorem ethReads_walk0 (F : List UInt8) (m : Nat) (A : Option Addr) (n c : Nat) (w : World) (hm : F.length = m) (hq0 : min (n : Int) 1515 = (m : Int)) (hmn : (m : Int) ≤ n) (hm2 : (m : Int) ≤ 1515) (hs : Sl w A c F) (hnc : n ≤ c) (hc : c ≤ 9223372036854775807) :
    Calls Try.prog 6 #[.slice A n c] w fun e w' => e = .returned (.bool true) ∧ Below w.heap.size w w' := by
  obtain ⟨a0, a1, a2, a3, a4, a5, hA⟩ := six (readTo_length F)
  obtain ⟨b0, b1, b2, b3, b4, b5, hB⟩ := six (readFr_length F)
  have RD := Lib.hid (fun (A : Option Addr) (n c : Nat) (w : World) hn hs => read_any A F n c w hn hs)
  have RR := Lib.hid (fun (A : Option Addr) (n c : Nat) (w : World) hn hs => rread_any A F n c w hn hs)
  unfold EGot at RD RR
  rw [hA, hB] at RD RR
  simp only [frameV, List.map_cons, List.map_nil, bval, List.cons_append, List.nil_append] at RD RR
  clear hA hB
  generalize readKind F = k at *
  generalize readE F = ee at *
  generalize readD F = D at *
  obtain ⟨d, HD⟩ : ∃ d, Hid (D.length = d) := ⟨_, rfl⟩
  rw [HD.out] at RD RR
  have HM := Lib.hid hm
  have HS := Lib.hid hs
  clear hm hs
  have hmc : (m : Int) ≤ c := by omega
  · skip
    have lm : F.length ≤ 1515 := by have := HM.out; omega
    have LM := Lib.hid lm
    clear lm
    go_enter Try.func6, Try.ntmps6
    go_wp2_with fail
    refine (bytes_n A F _ c _ HM.out HS.out (by have := LM.out; omega)).mono ?_
    rintro e w1 ⟨A1, c1, rfl, ho1, hb1⟩
    rw [HM.out]
    have HO1 := Lib.hid ho1.sl
    have HS1 := Lib.hid (HS.out.below hb1)
    have HB1 := Lib.hid hb1
    clear ho1 hb1 HS
    go_wp2_with fail
    refine (RD.out A1 _ c1 _ HM.out HO1.out).mono ?_
    rintro e w2 ⟨A2, c2, rfl, ho2, hb2⟩
    have HS2 := Lib.hid (HS1.out.below hb2)
    have HB2 := Lib.hid (HB1.out.trans (hb2.mono HB1.out.size))
    have HO2 := Lib.hid ho2.sl
    clear ho2 hb2 HS1 HB1 HO1
    go_upto_region 3 with fail
    have ha := (Below.refl w2.heap.size w2).alloc (Nat.le_refl _) (.cells #[(.int .u8 (a0.toNat : Int)), (.int .u8 (a1.toNat : Int)), (.int .u8 (a2.toNat : Int)), (.int .u8 (a3.toNat : Int)), (.int .u8 (a4.toNat : Int)), (.int .u8 (a5.toNat : Int)), (.int .u8 (b0.toNat : Int)), (.int .u8 (b1.toNat : Int)), (.int .u8 (b2.toNat : Int)), (.int .u8 (b3.toNat : Int)), (.int .u8 (b4.toNat : Int)), (.int .u8 (b5.toNat : Int)), .int .u16 k, .slice A2 d c2] 37)
    have HX := Lib.hid (blk_new w2 37 #[(.int .u8 (a0.toNat : Int)), (.int .u8 (a1.toNat : Int)), (.int .u8 (a2.toNat : Int)), (.int .u8 (a3.toNat : Int)), (.int .u8 (a4.toNat : Int)), (.int .u8 (a5.toNat : Int)), (.int .u8 (b0.toNat : Int)), (.int .u8 (b1.toNat : Int)), (.int .u8 (b2.toNat : Int)), (.int .u8 (b3.toNat : Int)), (.int .u8 (b4.toNat : Int)), (.int .u8 (b5.toNat : Int)), .int .u16 k, .slice A2 d c2])
    have HS3 := Lib.hid (HS2.out.below ha)
    have HO3 := Lib.hid (HO2.out.below ha)
    have HB3 := Lib.hid (HB2.out.trans (ha.mono HB2.out.size))
    clear ha HS2 HO2 HB2
    generalize w2.alloc (.cells #[(.int .u8 (a0.toNat : Int)), (.int .u8 (a1.toNat : Int)), (.int .u8 (a2.toNat : Int)), (.int .u8 (a3.toNat : Int)), (.int .u8 (a4.toNat : Int)), (.int .u8 (a5.toNat : Int)), (.int .u8 (b0.toNat : Int)), (.int .u8 (b1.toNat : Int)), (.int .u8 (b2.toNat : Int)), (.int .u8 (b3.toNat : Int)), (.int .u8 (b4.toNat : Int)), (.int .u8 (b5.toNat : Int)), .int .u16 k, .slice A2 d c2] 37) = w3 at *
    generalize w2.heap.size = g at *
    go_wp2_with fail
    refine (RR.out A _ c _ HM.out HS3.out).mono ?_
    rintro e w4 ⟨A4, c4, rfl, ho4, hb4⟩
    have HX4 := Lib.hid (HX.out.below hb4 HX.out.lt)
    have HO34 := Lib.hid (HO3.out.below hb4)
    have HB4 := Lib.hid (HB3.out.trans (hb4.mono HB3.out.size))
    have HO4 := Lib.hid ho4.sl
    clear ho4 hb4 HX HO3 HB3 HS3
    go_upto_region 4 with fail
    have ha := (Below.refl w4.heap.size w4).alloc (Nat.le_refl _) (.cells #[(.int .u8 (a0.toNat : Int)), (.int .u8 (a1.toNat : Int)), (.int .u8 (a2.toNat : Int)), (.int .u8 (a3.toNat : Int)), (.int .u8 (a4.toNat : Int)), (.int .u8 (a5.toNat : Int)), (.int .u8 (b0.toNat : Int)), (.int .u8 (b1.toNat : Int)), (.int .u8 (b2.toNat : Int)), (.int .u8 (b3.toNat : Int)), (.int .u8 (b4.toNat : Int)), (.int .u8 (b5.toNat : Int)), .int .u16 k, .slice A4 d c4] 42)
    have HY := Lib.hid (blk_new w4 42 #[(.int .u8 (a0.toNat : Int)), (.int .u8 (a1.toNat : Int)), (.int .u8 (a2.toNat : Int)), (.int .u8 (a3.toNat : Int)), (.int .u8 (a4.toNat : Int)), (.int .u8 (a5.toNat : Int)), (.int .u8 (b0.toNat : Int)), (.int .u8 (b1.toNat : Int)), (.int .u8 (b2.toNat : Int)), (.int .u8 (b3.toNat : Int)), (.int .u8 (b4.toNat : Int)), (.int .u8 (b5.toNat : Int)), .int .u16 k, .slice A4 d c4])
    have HX5 := Lib.hid (HX4.out.below ha HX4.out.lt)
    have HO35 := Lib.hid (HO34.out.below ha)
    have HO5 := Lib.hid (HO4.out.below ha)
    have HB5 := Lib.hid (HB4.out.trans (ha.mono HB4.out.size))
    clear ha HX4 HO34 HO4 HB4
    generalize w4.alloc (.cells #[(.int .u8 (a0.toNat : Int)), (.int .u8 (a1.toNat : Int)), (.int .u8 (a2.toNat : Int)), (.int .u8 (a3.toNat : Int)), (.int .u8 (a4.toNat : Int)), (.int .u8 (a5.toNat : Int)), (.int .u8 (b0.toNat : Int)), (.int .u8 (b1.toNat : Int)), (.int .u8 (b2.toNat : Int)), (.int .u8 (b3.toNat : Int)), (.int .u8 (b4.toNat : Int)), (.int .u8 (b5.toNat : Int)), .int .u16 k, .slice A4 d c4] 42) = w5 at *
    generalize w4.heap.size = g2 at *
    obtain ⟨m0, m1, m2, m3, m4, m5, m6, m7, m8, m9, m10, m11, m12, m13⟩ := HX5.out.cells14
    obtain ⟨r0, r1, r2, r3, r4, r5, r6, r7, r8, r9, r10, r11, r12, r13⟩ := HY.out.cells14
    go_wp2_with fail
    refine (samef_any a0 a1 a2 a3 a4 a5 b0 b1 b2 b3 b4 b5 k A2 A4 D d c2 c4 _ HD.out HO35.out HO5.out).mono ?_
    rintro e w6 ⟨rfl, hb6⟩
    have HB6 := Lib.hid (HB5.out.trans (hb6.mono HB5.out.size))
    clear hb6
    go_wp2_with fail
    refine (works_any _).mono ?_
    rintro e w13 ⟨rfl, hb2⟩
    have FIN : Hid (Below w.heap.size w w13) := HB6.out.trans (hb2.mono HB6.out.size)
    clear hb2
    go_wp2_with fail
    go_ret
    exact ⟨by simp, FIN.out⟩

theorem ethReads_walk (A : Option Addr) (bs : List UInt8) (c : Nat) (w : World) (hs : Sl w A c bs) :
    Calls Try.prog 6 #[.slice A bs.length c] w fun e w' => e = .returned (.bool true) ∧ Below w.heap.size w w' :=
  ethReads_walk0 (bs.take 1515) (bs.take 1515).length A bs.length c w rfl (by rw [List.length_take]; omega) (by rw [List.length_take]; omega) (by rw [List.length_take]; omega) (hs.take 1515) hs.2.1 hs.2.2.1
end Go.Proofs.Ythchjfkbaocoiaa
