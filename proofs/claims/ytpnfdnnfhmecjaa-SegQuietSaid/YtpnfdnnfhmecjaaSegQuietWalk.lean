/-
  The walk of the law SegQuiet.
-/
import Derived.Test.YtpnfdnnfhmecjaaSegL
import Derived.Test.YtpnfdnnfhmecjaaSegWorks
namespace Go.Proofs.Ytpnfdnnfhmecjaa
open Go.RowKit
set_option linter.unusedVariables false

set_option maxHeartbeats 4000000 in
set_option maxRecDepth 100000 in
theorem segQuiet_walk (fr to_ sq ak fl wi ur gr : Int) (D : Option Addr) (d : List UInt8) (n c : Nat) (w : World) (hn : d.length = n) (hs : Sl w D c d) :
    Calls Try.prog 7 #[.agg (segV fr to_ sq ak fl wi ur gr D n c)] w fun e w' => e = .returned (.bool true) ∧ Below w.heap.size w w' := by
  have hb1 : Below w.heap.size w (w.alloc (.cells (segV fr to_ sq ak fl wi ur gr D n c) 26)) := (Below.refl _ _).alloc (Nat.le_refl _) _
  have hbx := blk_new w 26 (segV fr to_ sq ak fl wi ur gr D n c)
  replace hs := hs.below hb1
  have HN := Lib.hid hn
  clear hn
  go_enter Try.func7, Try.ntmps7
  go_upto_region 1 with fail
  generalize w.alloc (.cells (segV fr to_ sq ak fl wi ur gr D n c) 26) = w1 at *
  have HB := Lib.hid hb1
  have HX := Lib.hid hbx
  have HS := Lib.hid hs
  clear hb1 hbx hs
  go_wp2_with fail
  refine (works_any _).mono ?_
  rintro e w1b ⟨rfl, hb⟩
  replace HB := Lib.hid (HB.out.trans (hb.mono HB.out.size))
  replace HX := Lib.hid (HX.out.below hb HX.out.lt)
  replace HS := Lib.hid (HS.out.below hb)
  clear hb
  obtain ⟨m0, m1, m2, m3, m4, m5, m6, m7, m8⟩ := HX.out.cells9
  go_wp2_with fail
  refine (fews_any fr to_ sq ak fl wi ur gr D d n c _ HN.out HS.out).mono ?_
  rintro e w2 ⟨D2, c2, rfl, ho, hb⟩
  obtain ⟨F, EF⟩ : ∃ F, Hid (fewS d = F) := ⟨_, rfl⟩
  rw [EF.out] at ho ⊢
  obtain ⟨m, LF⟩ : ∃ m, Hid (F.length = m) := ⟨_, rfl⟩
  rw [LF.out]
  have hx2 := HX.out.below hb HX.out.lt
  have HB2 := Lib.hid (HB.out.trans (hb.mono HB.out.size))
  obtain ⟨r0, r1, r2, r3, r4, r5, r6, r7, r8⟩ := hx2.cells9
  obtain ⟨g0, g1, g2, g3, g4, g5, g6, g7, g8⟩ := hx2.frees9
  have st := hx2.store9 (.int .i64 fr) (.int .i64 to_) (.int .u32 sq) (.int .u32 ak) (.int .i64 fl) (.int .i64 wi) (.int .i64 ur) (.int .i64 gr) (.slice D2 m c2)
  have HO2 := Lib.hid (((ho.base HB.out.size).grown hx2 (by decide) st.2))
  have HB3 := Lib.hid (below_grown HB2.out st.2 (Nat.le_refl _) (Nat.le_refl _))
  have HX3 := Lib.hid st.1
  clear ho hb hx2 st m0 m1 m2 m3 m4 m5 m6 m7 m8 HX HB HB2 HS
  go_upto_region 4 with fail
  generalize ((((((((w2.setCell ⟨w.heap.size, 0, none⟩ (.int .i64 fr)).setCell ⟨w.heap.size, 1, none⟩ (.int .i64 to_)).setCell ⟨w.heap.size, 2, none⟩ (.int .u32 sq)).setCell ⟨w.heap.size, 3, none⟩ (.int .u32 ak)).setCell ⟨w.heap.size, 4, none⟩ (.int .i64 fl)).setCell ⟨w.heap.size, 5, none⟩ (.int .i64 wi)).setCell ⟨w.heap.size, 6, none⟩ (.int .i64 ur)).setCell ⟨w.heap.size, 7, none⟩ (.int .i64 gr)).setCell ⟨w.heap.size, 8, none⟩ (.slice D2 m c2) = w3 at *
  clear r0 r1 r2 r3 r4 r5 r6 r7 r8 g0 g1 g2 g3 g4 g5 g6 g7 g8
  obtain ⟨m0, m1, m2, m3, m4, m5, m6, m7, m8⟩ := HX3.out.cells9
  go_wp2_with fail
  refine (reset_some fr to_ sq ak fl wi ur gr D2 m c2 _).mono ?_
  rintro e w4 ⟨hb, he⟩
  have HX4 := Lib.hid (HX3.out.below hb HX3.out.lt)
  have HB4 := Lib.hid (HB3.out.trans (hb.mono HB3.out.size))
  clear hb m0 m1 m2 m3 m4 m5 m6 m7 m8 HX3 HB3 HO2
  rcases he with rfl | ⟨q, k, fl2, rfl, hfl⟩
  · have HY := Lib.hid (blk_new w4 26 (segV 0 0 0 0 0 0 0 0 none 0 0))
    have HB5 := Lib.hid (HB4.out.alloc HB4.out.size (.cells (segV 0 0 0 0 0 0 0 0 none 0 0) 26))
    obtain ⟨m0, m1, m2, m3, m4, m5, m6, m7, m8⟩ := HY.out.cells9
    go_wp2_with fail
    refine (reset_some 0 0 0 0 0 0 0 0 none 0 0 _).mono ?_
    rintro e w5 ⟨hb, he⟩
    have HB6 := Lib.hid (HB5.out.trans (hb.mono HB5.out.size))
    clear hb m0 m1 m2 m3 m4 m5 m6 m7 m8 HX4 HB4 HY HB5
    rcases he with rfl | ⟨q, k, fl2, rfl, hfl⟩
    · have HB7 := Lib.hid (HB6.out.alloc HB6.out.size (.cells (segV 0 0 0 0 0 0 0 0 none 0 0) 26))
      go_wp2_with fail
      go_ret
      exact ⟨by simp, HB7.out⟩
    · clear hfl
      have HB7 := Lib.hid (HB6.out.alloc HB6.out.size (.cells (segV 0 0 q k fl2 0 0 0 none 0 0) 26))
      go_wp2_with fail
      go_ret
      exact ⟨by simp, HB7.out⟩
  · have HX5 := Lib.hid (blk_old HX4.out (.cells (segV to_ fr q k fl2 0 0 0 none 0 0) 26))
    have HY := Lib.hid (blk_new w4 26 (segV to_ fr q k fl2 0 0 0 none 0 0))
    have HB5 := Lib.hid (HB4.out.alloc HB4.out.size (.cells (segV to_ fr q k fl2 0 0 0 none 0 0) 26))
    have HF : Hid ((fl2, (2 : Int), true) ∈ [((2 : Int), (0 : Int), false), (2, 1, true), (2, 2, false), (2, 3, false), (2, 4, false), (2, 5, false), (4, 2, true), (20, 2, true)]) := by rcases hfl with rfl | rfl <;> simp [Hid]
    clear HX4 HB4 hfl
    obtain ⟨m0, m1, m2, m3, m4, m5, m6, m7, m8⟩ := HY.out.cells9
    go_wp2_with fail
    refine (reset_rst fl2 HF.out to_ fr q k 0 0 0 none 0 0 _).mono ?_
    rintro e w5 ⟨rfl, hb⟩
    have HX6 := Lib.hid (blk_old (HX5.out.below hb HX5.out.lt) (.cells (segV 0 0 0 0 0 0 0 0 none 0 0) 26))
    have HY6 := Lib.hid (blk_old (HY.out.below hb HY.out.lt) (.cells (segV 0 0 0 0 0 0 0 0 none 0 0) 26))
    have HB6 := Lib.hid (HB5.out.trans (hb.mono HB5.out.size))
    have HB7 := Lib.hid (HB6.out.alloc HB6.out.size (.cells (segV 0 0 0 0 0 0 0 0 none 0 0) 26))
    clear hb m0 m1 m2 m3 m4 m5 m6 m7 m8 HX5 HB5 HB6 HY HF
    obtain ⟨m0, m1, m2, m3, m4, m5, m6, m7, m8⟩ := HY6.out.cells9
    obtain ⟨r0, r1, r2, r3, r4, r5, r6, r7, r8⟩ := HX6.out.cells9
    go_wp2_with fail
    go_ret
    exact ⟨by simp, HB7.out⟩
end Go.Proofs.Ytpnfdnnfhmecjaa
