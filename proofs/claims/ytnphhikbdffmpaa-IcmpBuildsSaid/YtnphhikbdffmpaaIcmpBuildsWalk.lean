/-
  The walk of the law IcmpBuilds.
-/
import Derived.Test.YtnphhikbdffmpaaIcmpWorks
namespace Go.Proofs.Ytnphhikbdffmpaa
open Go.RowKit

set_option maxHeartbeats 8000000 in
set_option maxRecDepth 100000 in
theorem icmpBuilds_walk (k c r : Int) (D : Option Addr) (bs : List UInt8) (d : Nat) (A : Option Addr) (xs : List UInt8) (x : Nat) (w : World) (r0 : 0 ≤ r) (r1 : r < 4294967296) (hs : Sl w D d bs) (hx : Sl w A x xs) :
    Calls Try.prog 3 #[.agg #[.int .i64 k, .int .i64 c, .int .u32 r, .slice D bs.length d], .slice A xs.length x] w fun e w' => e = .returned (.bool true) ∧ Below w.heap.size w w' := by
  have hb1 : Below w.heap.size w (w.alloc (.cells #[.int .i64 k, .int .i64 c, .int .u32 r, .slice D bs.length d] 25)) := (Below.refl _ _).alloc (Nat.le_refl _) _
  have hbx := blk_new w 25 #[.int .i64 k, .int .i64 c, .int .u32 r, .slice D bs.length d]
  replace hs := hs.below hb1
  replace hx := hx.below hb1
  have lF := fewL_le bs
  have lG := fewL_le xs
  go_enter Try.func3, Try.ntmps3
  go_wp2_with fail
  generalize w.alloc (.cells #[.int .i64 k, .int .i64 c, .int .u32 r, .slice D bs.length d] 25) = w1 at *
  refine (few_any D bs _ d _ rfl hs).mono ?_
  rintro e w2 ⟨X1, y1, rfl, ho1, hb2⟩
  replace hx := hx.below hb2
  replace hbx := hbx.below hb2 hbx.lt
  replace ho1 := ho1.base hb1.size
  replace hb1 := hb1.trans (hb2.mono hb1.size)
  clear hs hb2
  go_wp2_with fail
  refine (few_any A xs _ x _ rfl hx).mono ?_
  rintro e w3 ⟨X2, y2, rfl, ho2, hb2⟩
  replace hbx := hbx.below hb2 hbx.lt
  replace ho1 := ho1.keep hb2
  replace ho2 := ho2.base hb1.size
  replace hb1 := hb1.trans (hb2.mono hb1.size)
  clear hx hb2
  generalize fewL bs = F at *
  generalize fewL xs = G at *
  obtain ⟨n1, E1⟩ : ∃ z, Hid (F.length = z) := ⟨_, rfl⟩
  obtain ⟨n2, E2⟩ : ∃ z, Hid (G.length = z) := ⟨_, rfl⟩
  rw [E1.out, E2.out]
  obtain ⟨c0, c1, c2, c3⟩ := hbx.cells4
  have f3 := hbx.free 3
  have hbx2 : Blk (w3.setCell ⟨w.heap.size, 3, none⟩ (.slice X1 n1 y1)) w.heap.size 25 #[.int .i64 k, .int .i64 c, .int .u32 r, .slice X1 n1 y1] := hbx.set 3 _
  have ho1' := ho1.past hbx (by decide) 3 (.slice X1 n1 y1)
  have ho2' := ho2.past hbx (by decide) 3 (.slice X1 n1 y1)
  have hb1' := hb1.setCell (p := ⟨w.heap.size, 3, none⟩) (Nat.le_refl _) (.slice X1 n1 y1)
  clear hbx ho1 ho2 hb1
  go_wp2_with fail
  generalize w3.setCell ⟨w.heap.size, 3, none⟩ (.slice X1 n1 y1) = w4 at *
  clear c0 c1 c2 c3 f3
  refine (build_n k c r X1 F n1 y1 _ E1.out r0 r1 ho1'.sl).mono ?_
  rintro e w5 ⟨X5, y5, rfl, ho5, hb2⟩
  replace hbx2 := hbx2.below hb2 hbx2.lt
  replace ho1' := ho1'.keep hb2
  replace ho2' := ho2'.keep hb2
  replace ho5 := ho5.base hb1'.size
  replace hb1' := hb1'.trans (hb2.mono hb1'.size)
  clear hb2
  obtain ⟨n5, E5⟩ : ∃ z, Hid ((outB k c r F).length = z) := ⟨_, rfl⟩
  obtain ⟨zE, EZ⟩ : ∃ z, Hid (errB k c F.length = z) := ⟨_, rfl⟩
  rw [E5.out, EZ.out]
  obtain ⟨c0, c1, c2, c3⟩ := hbx2.cells4
  go_wp2_with fail
  refine (rbuild_n k c r X1 F n1 y1 _ E1.out r0 r1 ho1'.sl).mono ?_
  rintro e w6 ⟨X6, y6, rfl, ho6, hb2⟩
  replace hbx2 := hbx2.below hb2 hbx2.lt
  replace ho1' := ho1'.keep hb2
  replace ho2' := ho2'.keep hb2
  replace ho5 := ho5.keep hb2
  replace ho6 := ho6.base hb1'.size
  replace hb1' := hb1'.trans (hb2.mono hb1'.size)
  clear hb2 c0 c1 c2 c3
  rw [E5.out, EZ.out]
  go_wp2_with fail
  refine (bytes_n X2 G n2 y2 _ E2.out ho2'.sl (by omega)).mono ?_
  rintro e w7 ⟨X7, y7, rfl, ho7, hb2⟩
  replace hbx2 := hbx2.below hb2 hbx2.lt
  replace ho1' := ho1'.keep hb2
  replace ho2' := ho2'.keep hb2
  replace ho5 := ho5.keep hb2
  replace ho6 := ho6.keep hb2
  replace ho7 := ho7.base hb1'.size
  replace hb1' := hb1'.trans (hb2.mono hb1'.size)
  clear hb2
  rw [E2.out]
  go_wp2_with fail
  refine (read_n X7 G n2 y7 _ E2.out ho7.sl (by omega)).mono ?_
  rintro e w8 ⟨X8, y8, rfl, ho8, hb2⟩
  obtain ⟨kR, EK⟩ : ∃ z, Hid (kindR G = z) := ⟨_, rfl⟩
  obtain ⟨cR, EC⟩ : ∃ z, Hid (codeR G = z) := ⟨_, rfl⟩
  obtain ⟨rR, ER⟩ : ∃ z, Hid (restR G = z) := ⟨_, rfl⟩
  obtain ⟨eR, EE⟩ : ∃ z, Hid (errR G = z) := ⟨_, rfl⟩
  obtain ⟨dn, ED⟩ : ∃ z, Hid ((dataR G).length = z) := ⟨_, rfl⟩
  rw [EK.out, EC.out, ER.out, EE.out, ED.out]
  replace hbx2 := blk_old (hbx2.below hb2 hbx2.lt) (.cells #[.int .i64 kR, .int .i64 cR, .int .u32 rR, .slice X8 dn y8] 25)
  have hba := (Below.refl w8.heap.size w8).alloc (Nat.le_refl _) (.cells #[.int .i64 kR, .int .i64 cR, .int .u32 rR, .slice X8 dn y8] 25)
  have hm8 := blk_new w8 25 #[.int .i64 kR, .int .i64 cR, .int .u32 rR, .slice X8 dn y8]
  replace ho1' := (ho1'.keep hb2).keep hba
  replace ho2' := (ho2'.keep hb2).keep hba
  replace ho5 := (ho5.keep hb2).keep hba
  replace ho6 := (ho6.keep hb2).keep hba
  replace ho8 := (ho8.base hb1'.size).keep hba
  replace hb1' := (hb1'.trans (hb2.mono hb1'.size)).trans (hba.mono (Nat.le_trans hb1'.size hb2.size))
  clear hb2 ho7 hba
  go_wp2_with fail
  generalize w8.alloc (.cells #[.int .i64 kR, .int .i64 cR, .int .u32 rR, .slice X8 dn y8] 25) = w9 at *
  generalize w8.heap.size = g8 at *
  refine (rread_n X2 G n2 y2 _ E2.out ho2'.sl (by omega)).mono ?_
  rintro e w10 ⟨X10, y10, rfl, ho10, hb2⟩
  rw [EK.out, EC.out, ER.out, EE.out, ED.out]
  have hba := (Below.refl w10.heap.size w10).alloc (Nat.le_refl _) (.cells #[.int .i64 kR, .int .i64 cR, .int .u32 rR, .slice X10 dn y10] 31)
  have hm10 := blk_new w10 31 #[.int .i64 kR, .int .i64 cR, .int .u32 rR, .slice X10 dn y10]
  replace hbx2 := blk_old (hbx2.below hb2 hbx2.lt) (.cells #[.int .i64 kR, .int .i64 cR, .int .u32 rR, .slice X10 dn y10] 31)
  replace hm8 := blk_old (hm8.below hb2 hm8.lt) (.cells #[.int .i64 kR, .int .i64 cR, .int .u32 rR, .slice X10 dn y10] 31)
  replace ho1' := (ho1'.keep hb2).keep hba
  replace ho5 := (ho5.keep hb2).keep hba
  replace ho6 := (ho6.keep hb2).keep hba
  replace ho8 := (ho8.keep hb2).keep hba
  replace ho10 := (ho10.base hb1'.size).keep hba
  replace hb1' := (hb1'.trans (hb2.mono hb1'.size)).trans (hba.mono (Nat.le_trans hb1'.size hb2.size))
  clear hb2 ho2' hba
  obtain ⟨a0, a1, a2, a3⟩ := hm8.cells4
  obtain ⟨b0, b1, b2, b3⟩ := hm10.cells4
  go_wp2_with fail
  generalize w10.alloc (.cells #[.int .i64 kR, .int .i64 cR, .int .u32 rR, .slice X10 dn y10] 31) = w11 at *
  generalize w10.heap.size = g10 at *
  refine (same_n X5 (outB k c r F) n5 y5 X6 (outB k c r F) n5 y6 _ E5.out E5.out ho5.bs ho6.bs).mono ?_
  rintro e w12 ⟨rfl, rfl⟩
  rw [decide_eq_true rfl]
  go_wp2_with fail
  refine (same_n X8 (dataR G) dn y8 X10 (dataR G) dn y10 _ ED.out ED.out ho8.bs ho10.bs).mono ?_
  rintro e w12 ⟨rfl, rfl⟩
  rw [decide_eq_true rfl]
  clear a0 a1 a2 a3 b0 b1 b2 b3 hm8 hm10 ho8 ho10 ho6
  cases hz : (zE == 0)
  · go_wp2_with fail
    refine (works_any _).mono ?_
    rintro e w13 ⟨rfl, hb2⟩
    go_wp2_with fail
    go_ret
    exact ⟨rfl, hb1'.trans (hb2.mono hb1'.size)⟩
  · obtain rfl : zE = 0 := by simpa using hz
    have eo : outB k c r F = msg k c r F := by rw [outB, if_pos EZ.out]
    rw [eo] at ho5 E5
    have hoc : octets k c := by
      have := EZ.out
      unfold errB at this
      by_cases h : octets k c
      · exact h
      · rw [if_neg h] at this; omega
    clear eo
    go_wp2_with fail
    refine (read_n X5 (msg k c r F) n5 y5 _ E5.out ho5.sl (by rw [msg_length]; omega)).mono ?_
    rintro e w13 ⟨X13, y13, rfl, ho13, hb2⟩
    rw [kindR_msg _ _ _ _ hoc.1.1 hoc.1.2, codeR_msg _ _ _ _ hoc.2.1 hoc.2.2, restR_msg _ _ _ _ r0 r1, errR_msg, dataR_msg, E1.out]
    rw [dataR_msg] at ho13
    have hba := (Below.refl w13.heap.size w13).alloc (Nat.le_refl _) (.cells #[.int .i64 k, .int .i64 c, .int .u32 r, .slice X13 n1 y13] 25)
    have hm13 := blk_new w13 25 #[.int .i64 k, .int .i64 c, .int .u32 r, .slice X13 n1 y13]
    replace hbx2 := blk_old (hbx2.below hb2 hbx2.lt) (.cells #[.int .i64 k, .int .i64 c, .int .u32 r, .slice X13 n1 y13] 25)
    replace ho1' := (ho1'.keep hb2).keep hba
    replace ho13 := (ho13.base hb1'.size).keep hba
    replace hb1' := (hb1'.trans (hb2.mono hb1'.size)).trans (hba.mono (Nat.le_trans hb1'.size hb2.size))
    clear hb2 hba ho5
    obtain ⟨a0, a1, a2, a3⟩ := hm13.cells4
    obtain ⟨b0, b1, b2, b3⟩ := hbx2.cells4
    go_wp2_with fail
    refine (same_n X13 F n1 y13 X1 F n1 y1 _ E1.out E1.out ho13.bs ho1'.bs).mono ?_
    rintro e w14 ⟨rfl, rfl⟩
    rw [decide_eq_true rfl]
    go_wp2_with fail
    refine (works_any _).mono ?_
    rintro e w15 ⟨rfl, hb2⟩
    go_wp2_with fail
    go_ret
    exact ⟨rfl, hb1'.trans (hb2.mono hb1'.size)⟩
end Go.Proofs.Ytnphhikbdffmpaa
