/-
  The walk of the law SegBuilds.
-/
import Derived.Test.YtpnfdnnfhmecjaaSegE
import Derived.Test.YtpnfdnnfhmecjaaSegL
import Derived.Test.YtpnfdnnfhmecjaaSegWorks
namespace Go.Proofs.Ytpnfdnnfhmecjaa
open Go.RowKit
set_option linter.unusedVariables false

theorem fewS_len (d : List UInt8) : (fewS d).length ≤ 65496 := by
  unfold fewS
  split
  · rw [List.length_replicate]; omega
  · rw [List.length_take]; omega
theorem fewS_fewS (d : List UInt8) : fewS (fewS d) = fewS d := by
  unfold fewS
  by_cases h : 65495 < d.length
  · rw [if_pos h, List.length_replicate, if_pos (by omega)]
  · rw [if_neg h, if_neg (by rw [List.length_take]; omega)]
    exact List.take_of_length_le (by rw [List.length_take]; omega)

set_option maxHeartbeats 4000000 in
set_option maxRecDepth 100000 in
theorem segBuilds_walk (f t fr to_ sq ak fl wi ur gr : Int) (D : Option Addr) (d : List UInt8) (n c : Nat) (w : World) (hn : d.length = n) (hs : Sl w D c d) (f0 : 0 ≤ f) (f1 : f < 4294967296) (t0 : 0 ≤ t) (t1 : t < 4294967296) (s0 : 0 ≤ sq) (s1 : sq < 4294967296) (k0 : 0 ≤ ak) (k1 : ak < 4294967296) :
    Calls Try.prog 3 #[.int .u32 f, .int .u32 t, .agg (segV fr to_ sq ak fl wi ur gr D n c)] w fun e w' => e = .returned (.bool true) ∧ Below w.heap.size w w' := by
  have hb1 : Below w.heap.size w (w.alloc (.cells (segV fr to_ sq ak fl wi ur gr D n c) 26)) := (Below.refl _ _).alloc (Nat.le_refl _) _
  have hbx := blk_new w 26 (segV fr to_ sq ak fl wi ur gr D n c)
  replace hs := hs.below hb1
  have FF : Hid (fewS (fewS d) = fewS d) := fewS_fewS d
  have HN := Lib.hid hn
  have EB := Lib.hid (fun (D : Option Addr) (d : List UInt8) (n c : Nat) (w : World) hn hs => segbuild_any f t fr to_ sq ak fl wi ur gr D d n c w hn hs f0 f1 t0 t1 s0 s1 k0 k1)
  have RB := Lib.hid (fun (D : Option Addr) (d : List UInt8) (n c : Nat) (w : World) hn hs => refbuild_any f t fr to_ sq ak fl wi ur gr D d n c w hn hs f0 f1 t0 t1 s0 s1 k0 k1)
  clear hn f0 f1 t0 t1 s0 s1 k0 k1
  go_enter Try.func3, Try.ntmps3
  go_upto_region 1 with fail
  generalize w.alloc (.cells (segV fr to_ sq ak fl wi ur gr D n c) 26) = w1 at *
  have HB := Lib.hid hb1
  have HX := Lib.hid hbx
  have HS := Lib.hid hs
  clear hb1 hbx hs
  obtain ⟨m0, m1, m2, m3, m4, m5, m6, m7, m8⟩ := HX.out.cells9
  go_wp2_with fail
  refine (fews_any fr to_ sq ak fl wi ur gr D d n c _ HN.out HS.out).mono ?_
  rintro e w2 ⟨D2, c2, rfl, ho, hb⟩
  obtain ⟨F, EF⟩ : ∃ F, Hid (fewS d = F) := ⟨_, rfl⟩
  rw [EF.out] at ho FF ⊢
  obtain ⟨m, LF⟩ : ∃ m, Hid (F.length = m) := ⟨_, rfl⟩
  rw [LF.out]
  have hx2 := HX.out.below hb HX.out.lt
  have HB2 := Lib.hid (HB.out.trans (hb.mono HB.out.size))
  obtain ⟨r0, r1, r2, r3, r4, r5, r6, r7, r8⟩ := hx2.cells9
  obtain ⟨f0, f1, f2, f3, f4, f5, f6, f7, f8⟩ := hx2.frees9
  have st := hx2.store9 (.int .i64 fr) (.int .i64 to_) (.int .u32 sq) (.int .u32 ak) (.int .i64 fl) (.int .i64 wi) (.int .i64 ur) (.int .i64 gr) (.slice D2 m c2)
  have HO2 := Lib.hid (((ho.base HB.out.size).grown hx2 (by decide) st.2))
  have HB3 := Lib.hid (below_grown HB2.out st.2 (Nat.le_refl _) (Nat.le_refl _))
  have HX3 := Lib.hid st.1
  clear ho hb hx2 st m0 m1 m2 m3 m4 m5 m6 m7 m8 HX HB HB2 HS
  go_upto_region 2 with fail
  generalize ((((((((w2.setCell ⟨w.heap.size, 0, none⟩ (.int .i64 fr)).setCell ⟨w.heap.size, 1, none⟩ (.int .i64 to_)).setCell ⟨w.heap.size, 2, none⟩ (.int .u32 sq)).setCell ⟨w.heap.size, 3, none⟩ (.int .u32 ak)).setCell ⟨w.heap.size, 4, none⟩ (.int .i64 fl)).setCell ⟨w.heap.size, 5, none⟩ (.int .i64 wi)).setCell ⟨w.heap.size, 6, none⟩ (.int .i64 ur)).setCell ⟨w.heap.size, 7, none⟩ (.int .i64 gr)).setCell ⟨w.heap.size, 8, none⟩ (.slice D2 m c2) = w3 at *
  clear r0 r1 r2 r3 r4 r5 r6 r7 r8 f0 f1 f2 f3 f4 f5 f6 f7 f8
  obtain ⟨m0, m1, m2, m3, m4, m5, m6, m7, m8⟩ := HX3.out.cells9
  go_wp2_with fail
  refine (fews_any fr to_ sq ak fl wi ur gr D2 F m c2 _ LF.out HO2.out.sl).mono ?_
  rintro e w4 ⟨D4, c4, rfl, ho, hb⟩
  rw [FF.out] at ho ⊢
  rw [LF.out]
  have HX4 := Lib.hid (HX3.out.below hb HX3.out.lt)
  have HB4 := Lib.hid (HB3.out.trans (hb.mono HB3.out.size))
  have HO4 := Lib.hid ho.sl
  have HO24 := Lib.hid (HO2.out.keep hb)
  clear ho hb m0 m1 m2 m3 m4 m5 m6 m7 m8 HX3 HB3 HO2
  go_wp2_with fail
  refine (EB.out D4 F m c4 _ LF.out HO4.out).mono ?_
  rintro e w5 ⟨X, x, rfl, ho, hb⟩
  rw [LF.out]
  obtain ⟨R, ER⟩ : ∃ R, Hid (segR f t ⟨fr, to_, sq, ak, fl, wi, ur, gr⟩ F = R) := ⟨_, rfl⟩
  rw [ER.out] at ho ⊢
  obtain ⟨r, LR⟩ : ∃ r, Hid (R.length = r) := ⟨_, rfl⟩
  rw [LR.out]
  obtain ⟨z, EZ⟩ : ∃ z, Hid (segE ⟨fr, to_, sq, ak, fl, wi, ur, gr⟩ m = z) := ⟨_, rfl⟩
  rw [EZ.out]
  have HX5 := Lib.hid (HX4.out.below hb HX4.out.lt)
  have HB5 := Lib.hid (HB4.out.trans (hb.mono HB4.out.size))
  have HO5 := Lib.hid ho
  have HO25 := Lib.hid (HO24.out.keep hb)
  clear ho hb HX4 HB4 HO4 HO24
  obtain ⟨m0, m1, m2, m3, m4, m5, m6, m7, m8⟩ := HX5.out.cells9
  go_wp2_with fail
  refine (plain_any fr to_ sq ak fl wi ur gr D2 m c2 _).mono ?_
  rintro e w5b ⟨rfl, hb⟩
  have HB5b := Lib.hid (HB5.out.trans (hb.mono HB5.out.size))
  have HO5b := Lib.hid (HO5.out.keep hb)
  have HO25b := Lib.hid (HO25.out.keep hb)
  clear hb m0 m1 m2 m3 m4 m5 m6 m7 m8 HX5 HB5 HO5 HO25
  go_wp2_with fail
  refine (RB.out D2 F m c2 _ LF.out HO25b.out.sl).mono ?_
  rintro e w6 ⟨Y, y, rfl, ho, hb⟩
  rw [LF.out, ER.out, LR.out, EZ.out]
  rw [ER.out] at ho
  have HB6 := Lib.hid (HB5b.out.trans (hb.mono HB5b.out.size))
  have HO6 := Lib.hid ho
  have HO56 := Lib.hid (HO5b.out.keep hb)
  clear ho hb HB5b HO5b HO25b
  go_wp2_with fail
  refine (same_n X R r x Y R r y _ LR.out LR.out HO56.out.bs HO6.out.bs).mono ?_
  rintro e w7 ⟨rfl, rfl⟩
  rw [decide_eq_true rfl]
  go_wp2_with fail
  refine (works_any _).mono ?_
  rintro e w13 ⟨rfl, hb2⟩
  have FIN : Hid (Below w.heap.size w w13) := HB6.out.trans (hb2.mono HB6.out.size)
  clear hb2
  go_wp2_with fail
  go_ret
  exact ⟨by simp, FIN.out⟩
end Go.Proofs.Ytpnfdnnfhmecjaa
