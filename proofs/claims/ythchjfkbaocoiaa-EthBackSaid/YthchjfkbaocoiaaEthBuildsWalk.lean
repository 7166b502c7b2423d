/-
  The walk of the law EthBuilds.
-/
import Derived.Test.YthchjfkbaocoiaaEthI
import Derived.Test.YthchjfkbaocoiaaSame
import Derived.Test.YthchjfkbaocoiaaEthWorks
namespace Go.Proofs.Ythchjfkbaocoiaa
open Go.RowKit
set_option linter.unusedVariables false

theorem same_n (A : Option Addr) (xs : List UInt8) (n c : Nat) (B : Option Addr) (ys : List UInt8) (m d : Nat) (w : World) (hn : xs.length = n) (hm : ys.length = m) (hx : Bs w A xs) (hy : Bs w B ys) :
    Calls Try.prog 22 #[.slice A n c, .slice B m d] w fun e w' => e = .returned (.bool (decide (xs = ys))) ∧ w = w' := by
  subst hn hm; exact same_any A xs c B ys d w hx hy
theorem fewL_fewL (d : List UInt8) : fewL (fewL d) = fewL d := by
  unfold fewL
  by_cases h : 1500 < d.length
  · rw [if_pos h, List.length_replicate, if_pos (by omega)]
  · rw [if_neg h, if_neg h]

set_option maxHeartbeats 4000000 in
set_option maxRecDepth 100000 in
theorem ethBuilds_walk0 (x0 x1 x2 x3 x4 x5 x6 x7 x8 x9 x10 x11 k : Int) (to_ fr : List UInt8) (D : Option Addr) (d : List UInt8) (n c : Nat) (w : World)
    (EB : Hid (∀ (D : Option Addr) (d : List UInt8) (n c : Nat) (w : World), d.length = n → Sl w D c d → Calls Try.prog 20 #[.agg #[(.int .u8 x0), (.int .u8 x1), (.int .u8 x2), (.int .u8 x3), (.int .u8 x4), (.int .u8 x5), (.int .u8 x6), (.int .u8 x7), (.int .u8 x8), (.int .u8 x9), (.int .u8 x10), (.int .u8 x11), .int .u16 k, .slice D n c]] w (EBuilt to_ fr k d w)))
    (RB : Hid (∀ (D : Option Addr) (d : List UInt8) (n c : Nat) (w : World), d.length = n → Sl w D c d → Calls Try.prog 21 #[.agg #[(.int .u8 x0), (.int .u8 x1), (.int .u8 x2), (.int .u8 x3), (.int .u8 x4), (.int .u8 x5), (.int .u8 x6), (.int .u8 x7), (.int .u8 x8), (.int .u8 x9), (.int .u8 x10), (.int .u8 x11), .int .u16 k, .slice D n c]] w (EBuilt to_ fr k d w)))
    (hn : d.length = n) (hs : Sl w D c d) :
    Calls Try.prog 5 #[.agg #[(.int .u8 x0), (.int .u8 x1), (.int .u8 x2), (.int .u8 x3), (.int .u8 x4), (.int .u8 x5), (.int .u8 x6), (.int .u8 x7), (.int .u8 x8), (.int .u8 x9), (.int .u8 x10), (.int .u8 x11), .int .u16 k, .slice D n c]] w fun e w' => e = .returned (.bool true) ∧ Below w.heap.size w w' := by
  have hb1 : Below w.heap.size w (w.alloc (.cells #[(.int .u8 x0), (.int .u8 x1), (.int .u8 x2), (.int .u8 x3), (.int .u8 x4), (.int .u8 x5), (.int .u8 x6), (.int .u8 x7), (.int .u8 x8), (.int .u8 x9), (.int .u8 x10), (.int .u8 x11), .int .u16 k, .slice D n c] 37)) := (Below.refl _ _).alloc (Nat.le_refl _) _
  have hbx := blk_new w 37 #[(.int .u8 x0), (.int .u8 x1), (.int .u8 x2), (.int .u8 x3), (.int .u8 x4), (.int .u8 x5), (.int .u8 x6), (.int .u8 x7), (.int .u8 x8), (.int .u8 x9), (.int .u8 x10), (.int .u8 x11), .int .u16 k, .slice D n c]
  replace hs := hs.below hb1
  have FF : Hid (fewL (fewL d) = fewL d) := fewL_fewL d
  have FL := Lib.hid (fewL_le d)
  have HN := Lib.hid hn
  clear hn
  go_enter Try.func5, Try.ntmps5
  go_upto_region 1 with fail
  generalize w.alloc (.cells #[(.int .u8 x0), (.int .u8 x1), (.int .u8 x2), (.int .u8 x3), (.int .u8 x4), (.int .u8 x5), (.int .u8 x6), (.int .u8 x7), (.int .u8 x8), (.int .u8 x9), (.int .u8 x10), (.int .u8 x11), .int .u16 k, .slice D n c] 37) = w1 at *
  have HB := Lib.hid hb1
  have HX := Lib.hid hbx
  have HS := Lib.hid hs
  clear hb1 hbx hs
  obtain ⟨m0, m1, m2, m3, m4, m5, m6, m7, m8, m9, m10, m11, m12, m13⟩ := HX.out.cells14
  go_wp2_with fail
  refine (few_any x0 x1 x2 x3 x4 x5 x6 x7 x8 x9 x10 x11 k D d n c _ HN.out HS.out).mono ?_
  rintro e w2 ⟨D2, c2, rfl, ho, hb⟩
  obtain ⟨F, EF⟩ : ∃ F, Hid (fewL d = F) := ⟨_, rfl⟩
  rw [EF.out] at ho FF FL ⊢
  obtain ⟨m, LF⟩ : ∃ m, Hid (F.length = m) := ⟨_, rfl⟩
  rw [LF.out]
  have hx2 := HX.out.below hb HX.out.lt
  have HB2 := Lib.hid (HB.out.trans (hb.mono HB.out.size))
  obtain ⟨r0, r1, r2, r3, r4, r5, r6, r7, r8, r9, r10, r11, r12, r13⟩ := hx2.cells14
  obtain ⟨f0, f1, f2, f3, f4, f5, f6, f7, f8, f9, f10, f11, f12, f13⟩ := hx2.frees14
  have st := hx2.store14 (.int .u8 x0) (.int .u8 x1) (.int .u8 x2) (.int .u8 x3) (.int .u8 x4) (.int .u8 x5) (.int .u8 x6) (.int .u8 x7) (.int .u8 x8) (.int .u8 x9) (.int .u8 x10) (.int .u8 x11) (.int .u16 k) (.slice D2 m c2)
  have HO2 := Lib.hid (((ho.base HB.out.size).grown hx2 (by decide) st.2))
  have HB3 := Lib.hid (below_grown HB2.out st.2 (Nat.le_refl _) (Nat.le_refl _))
  have HX3 := Lib.hid st.1
  clear ho hb hx2 st m0 m1 m2 m3 m4 m5 m6 m7 m8 m9 m10 m11 m12 m13 HX HB HB2 HS
  go_upto_region 2 with fail
  generalize ((((((((((((((w2).setCell ⟨w.heap.size, 0, none⟩ (.int .u8 x0)).setCell ⟨w.heap.size, 1, none⟩ (.int .u8 x1)).setCell ⟨w.heap.size, 2, none⟩ (.int .u8 x2)).setCell ⟨w.heap.size, 3, none⟩ (.int .u8 x3)).setCell ⟨w.heap.size, 4, none⟩ (.int .u8 x4)).setCell ⟨w.heap.size, 5, none⟩ (.int .u8 x5)).setCell ⟨w.heap.size, 6, none⟩ (.int .u8 x6)).setCell ⟨w.heap.size, 7, none⟩ (.int .u8 x7)).setCell ⟨w.heap.size, 8, none⟩ (.int .u8 x8)).setCell ⟨w.heap.size, 9, none⟩ (.int .u8 x9)).setCell ⟨w.heap.size, 10, none⟩ (.int .u8 x10)).setCell ⟨w.heap.size, 11, none⟩ (.int .u8 x11)).setCell ⟨w.heap.size, 12, none⟩ (.int .u16 k)).setCell ⟨w.heap.size, 13, none⟩ (.slice D2 m c2) = w3 at *
  clear r0 r1 r2 r3 r4 r5 r6 r7 r8 r9 r10 r11 r12 r13 f0 f1 f2 f3 f4 f5 f6 f7 f8 f9 f10 f11 f12 f13
  obtain ⟨m0, m1, m2, m3, m4, m5, m6, m7, m8, m9, m10, m11, m12, m13⟩ := HX3.out.cells14
  go_wp2_with fail
  refine (few_any x0 x1 x2 x3 x4 x5 x6 x7 x8 x9 x10 x11 k D2 F m c2 _ LF.out HO2.out.sl).mono ?_
  rintro e w4 ⟨D4, c4, rfl, ho, hb⟩
  rw [FF.out] at ho ⊢
  rw [LF.out]
  have HX4 := Lib.hid (HX3.out.below hb HX3.out.lt)
  have HB4 := Lib.hid (HB3.out.trans (hb.mono HB3.out.size))
  have HO4 := Lib.hid ho.sl
  have HO24 := Lib.hid (HO2.out.keep hb)
  clear ho hb m0 m1 m2 m3 m4 m5 m6 m7 m8 m9 m10 m11 m12 m13 HX3 HB3 HO2
  go_wp2_with fail
  refine (EB.out D4 F m c4 _ LF.out HO4.out).mono ?_
  rintro e w5 ⟨X, x, rfl, ho, hb⟩
  rw [LF.out]
  obtain ⟨R, ER⟩ : ∃ R, Hid (ethR to_ fr k F = R) := ⟨_, rfl⟩
  rw [ER.out] at ho ⊢
  obtain ⟨r, LR⟩ : ∃ r, Hid (R.length = r) := ⟨_, rfl⟩
  rw [LR.out]
  obtain ⟨z, EZ⟩ : ∃ z, Hid (ethE m = z) := ⟨_, rfl⟩
  rw [EZ.out]
  have HX5 := Lib.hid (HX4.out.below hb HX4.out.lt)
  have HB5 := Lib.hid (HB4.out.trans (hb.mono HB4.out.size))
  have HO5 := Lib.hid ho
  have HO25 := Lib.hid (HO24.out.keep hb)
  clear ho hb HX4 HB4 HO4 HO24
  obtain ⟨m0, m1, m2, m3, m4, m5, m6, m7, m8, m9, m10, m11, m12, m13⟩ := HX5.out.cells14
  go_wp2_with fail
  refine (RB.out D2 F m c2 _ LF.out HO25.out.sl).mono ?_
  rintro e w6 ⟨Y, y, rfl, ho, hb⟩
  rw [LF.out, ER.out, LR.out, EZ.out]
  rw [ER.out] at ho
  have HB6 := Lib.hid (HB5.out.trans (hb.mono HB5.out.size))
  have HO6 := Lib.hid ho
  have HO56 := Lib.hid (HO5.out.keep hb)
  clear ho hb m0 m1 m2 m3 m4 m5 m6 m7 m8 m9 m10 m11 m12 m13 HX5 HB5 HO5 HO25
  go_wp2_with fail
  refine (same_n X R r x Y R r y _ LR.out LR.out HO56.out.bs HO6.out.bs).mono ?_
  rintro e w7 ⟨rfl, rfl⟩
  rw [decide_eq_true rfl]
  go_wp2_with fail
  refine (works_any _).mono ?_
  rintro e w13 ⟨rfl, hb2⟩
  have FIN : Hid (Below w.heap.size w w13) := HB6.out.trans (hb2.mono HB6.out.size)
  clear hb2
  go_wp2_with fail
  go_ret
  exact ⟨by simp, FIN.out⟩

theorem ethBuilds_walk (to_ fr : List UInt8) (k : Int) (D : Option Addr) (d : List UInt8) (c : Nat) (w : World) (h1 : to_.length = 6) (h2 : fr.length = 6) (k0 : 0 ≤ k) (k1 : k < 65536) (hs : Sl w D c d) :
    Calls Try.prog 5 #[.agg (frameV to_ fr k D d.length c)] w fun e w' => e = .returned (.bool true) ∧ Below w.heap.size w w' := by
  have EB := Lib.hid (fun D d n c w hn hs => ebuild_any to_ fr k D d n c w h1 h2 k0 k1 hn hs)
  have RB := Lib.hid (fun D d n c w hn hs => rebuild_any to_ fr k D d n c w h1 h2 k0 k1 hn hs)
  obtain ⟨a0, a1, a2, a3, a4, a5, rfl⟩ := six h1
  obtain ⟨b0, b1, b2, b3, b4, b5, rfl⟩ := six h2
  exact ethBuilds_walk0 (a0.toNat : Int) (a1.toNat : Int) (a2.toNat : Int) (a3.toNat : Int) (a4.toNat : Int) (a5.toNat : Int) (b0.toNat : Int) (b1.toNat : Int) (b2.toNat : Int) (b3.toNat : Int) (b4.toNat : Int) (b5.toNat : Int) k _ _ D d d.length c w EB RB rfl hs
end Go.Proofs.Ythchjfkbaocoiaa
