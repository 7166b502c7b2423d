/-
  The walk of the law SegBack.
-/
import Derived.Test.YtpnfdnnfhmecjaaSegL
import Derived.Test.YtpnfdnnfhmecjaaSegWorks
import Derived.Test.YtpnfdnnfhmecjaaPlainSeg2
namespace Go.Proofs.Ytpnfdnnfhmecjaa
open Go.RowKit
set_option linter.unusedVariables false

theorem fewS_len' (d : List UInt8) : (fewS d).length ≤ 65496 := by
  unfold fewS
  split
  · rw [List.length_replicate]; omega
  · rw [List.length_take]; omega
set_option maxHeartbeats 4000000 in
set_option maxRecDepth 100000 in
theorem segBack_walk (f t fr to_ sq ak fl wi ur gr : Int) (D : Option Addr) (d : List UInt8) (n c : Nat) (w : World) (hn : d.length = n) (hs : Sl w D c d) (f0 : 0 ≤ f) (f1 : f < 4294967296) (t0 : 0 ≤ t) (t1 : t < 4294967296) (s0 : 0 ≤ sq) (s1 : sq < 4294967296) (k0 : 0 ≤ ak) (k1 : ak < 4294967296) :
    Calls Try.prog 5 #[.int .u32 f, .int .u32 t, .agg (segV fr to_ sq ak fl wi ur gr D n c)] w fun e w' => e = .returned (.bool true) ∧ Below w.heap.size w w' := by
  have hb1 : Below w.heap.size w (w.alloc (.cells (segV fr to_ sq ak fl wi ur gr D n c) 26)) := (Below.refl _ _).alloc (Nat.le_refl _) _
  have hbx := blk_new w 26 (segV fr to_ sq ak fl wi ur gr D n c)
  replace hs := hs.below hb1
  have HN := Lib.hid hn
  have EB := Lib.hid (fun (D : Option Addr) (d : List UInt8) (n c : Nat) (w : World) hn hs => segbuild_any f t fr to_ sq ak fl wi ur gr D d n c w hn hs f0 f1 t0 t1 s0 s1 k0 k1)
  have RD := Lib.hid (fun (D : Option Addr) (d : List UInt8) (n c : Nat) (w : World) hn hs hl => segread_any f t D d n c w hn hs hl f0 f1 t0 t1)
  have SBK := Lib.hid (fun (d : List UInt8) h => seg_back f t ⟨fr, to_, sq, ak, fl, wi, ur, gr⟩ d h s0 s1 k0 k1)
  clear hn f0 f1 t0 t1 s0 s1 k0 k1
  go_enter Try.func5, Try.ntmps5
  go_upto_region 1 with fail
  generalize w.alloc (.cells (segV fr to_ sq ak fl wi ur gr D n c) 26) = w1 at *
  have HB := Lib.hid hb1
  have HX := Lib.hid hbx
  have HS := Lib.hid hs
  clear hb1 hbx hs
  go_wp2_with fail
  refine (works_any _).mono ?_
  rintro e w1b ⟨rfl, hb⟩
  replace HB := Lib.hid (HB.out.trans (hb.mono HB.out.size))
  replace HX := Lib.hid (HX.out.below hb HX.out.lt)
  replace HS := Lib.hid (HS.out.below hb)
  clear hb
  obtain ⟨m0, m1, m2, m3, m4, m5, m6, m7, m8⟩ := HX.out.cells9
  go_wp2_with fail
  refine (fews_any fr to_ sq ak fl wi ur gr D d n c _ HN.out HS.out).mono ?_
  rintro e w2 ⟨D2, c2, rfl, ho, hb⟩
  obtain ⟨F, EF⟩ : ∃ F, Hid (fewS d = F) := ⟨_, rfl⟩
  rw [EF.out] at ho ⊢
  obtain ⟨m, LF⟩ : ∃ m, Hid (F.length = m) := ⟨_, rfl⟩
  rw [LF.out]
  have hx2 := HX.out.below hb HX.out.lt
  have HB2 := Lib.hid (HB.out.trans (hb.mono HB.out.size))
  obtain ⟨r0, r1, r2, r3, r4, r5, r6, r7, r8⟩ := hx2.cells9
  obtain ⟨g0, g1, g2, g3, g4, g5, g6, g7, g8⟩ := hx2.frees9
  have st := hx2.store9 (.int .i64 fr) (.int .i64 to_) (.int .u32 sq) (.int .u32 ak) (.int .i64 fl) (.int .i64 wi) (.int .i64 ur) (.int .i64 gr) (.slice D2 m c2)
  have HO2 := Lib.hid (((ho.base HB.out.size).grown hx2 (by decide) st.2))
  have HB3 := Lib.hid (below_grown HB2.out st.2 (Nat.le_refl _) (Nat.le_refl _))
  have HX3 := Lib.hid st.1
  clear ho hb hx2 st m0 m1 m2 m3 m4 m5 m6 m7 m8 HX HB HB2 HS
  go_upto_region 4 with fail
  generalize ((((((((w2.setCell ⟨w.heap.size, 0, none⟩ (.int .i64 fr)).setCell ⟨w.heap.size, 1, none⟩ (.int .i64 to_)).setCell ⟨w.heap.size, 2, none⟩ (.int .u32 sq)).setCell ⟨w.heap.size, 3, none⟩ (.int .u32 ak)).setCell ⟨w.heap.size, 4, none⟩ (.int .i64 fl)).setCell ⟨w.heap.size, 5, none⟩ (.int .i64 wi)).setCell ⟨w.heap.size, 6, none⟩ (.int .i64 ur)).setCell ⟨w.heap.size, 7, none⟩ (.int .i64 gr)).setCell ⟨w.heap.size, 8, none⟩ (.slice D2 m c2) = w3 at *
  clear r0 r1 r2 r3 r4 r5 r6 r7 r8 g0 g1 g2 g3 g4 g5 g6 g7 g8
  obtain ⟨m0, m1, m2, m3, m4, m5, m6, m7, m8⟩ := HX3.out.cells9
  go_wp2_with fail
  refine (EB.out D2 F m c2 _ LF.out HO2.out.sl).mono ?_
  rintro e w4 ⟨X, x, rfl, ho, hb⟩
  rw [LF.out]
  have HX4 := Lib.hid (HX3.out.below hb HX3.out.lt)
  have HB4 := Lib.hid (HB3.out.trans (hb.mono HB3.out.size))
  have HO4 := Lib.hid ho
  have HO24 := Lib.hid (HO2.out.keep hb)
  clear ho hb m0 m1 m2 m3 m4 m5 m6 m7 m8 HX3 HB3 HO2
  by_cases hok : fitsP ⟨fr, to_, sq, ak, fl, wi, ur, gr⟩ ∧ (F.length : Int) ≤ 65495
  · obtain ⟨hfit, hlen⟩ := hok
    have ER : Hid (segR f t ⟨fr, to_, sq, ak, fl, wi, ur, gr⟩ F = segB f t ⟨fr, to_, sq, ak, fl, wi, ur, gr⟩ F) := by show _ = _; rw [segR, if_pos ⟨hfit, hlen⟩]
    have EE : Hid (segE ⟨fr, to_, sq, ak, fl, wi, ur, gr⟩ m = 0) := by show _ = _; rw [segE, if_pos hfit, if_pos (by rw [← LF.out]; exact hlen)]
    have EQ := Lib.hid (SBK.out F hfit)
    obtain ⟨r, LR⟩ : ∃ r, Hid ((segB f t ⟨fr, to_, sq, ak, fl, wi, ur, gr⟩ F).length = r) := ⟨_, rfl⟩
    have hr : r ≤ 65519 := by
      have h1 := LR.out
      have h2 := opts_length ⟨fr, to_, sq, ak, fl, wi, ur, gr⟩
      rw [segB_length, h2] at h1
      split at h1 <;> omega
    rw [ER.out, EE.out, LR.out]
    rw [ER.out] at HO4
    generalize segB f t ⟨fr, to_, sq, ak, fl, wi, ur, gr⟩ F = BB at *
    clear hfit hlen ER EE EB SBK
    have hr2 : (r : Int) ≤ 70000 := by omega
    have hr3 : ¬ (65535 : Int) < (r : Int) := by omega
    go_wp2_with fail
    refine (RD.out X BB r x _ LR.out HO4.out.sl (by omega)).mono ?_
    rintro e w5 ⟨Y, y, rfl, hs5, hb⟩
    have e1 : rS f t BB = ⟨fr, to_, sq, ak, fl, wi, ur, gr⟩ := by rw [rS, EQ.out]
    have e2 : rD f t BB = F := by rw [rD, EQ.out]
    have e3 : rE f t BB = 0 := by rw [rE, EQ.out]; rfl
    rw [e2] at hs5
    rw [e1, e2, e3, LF.out, show segS ⟨fr, to_, sq, ak, fl, wi, ur, gr⟩ Y m y = segV fr to_ sq ak fl wi ur gr Y m y from rfl]
    have HX5 := Lib.hid (blk_old (HX4.out.below hb HX4.out.lt) (.cells (segV fr to_ sq ak fl wi ur gr Y m y) 26))
    have HY5 := Lib.hid (blk_new w5 26 (segV fr to_ sq ak fl wi ur gr Y m y))
    have hb5 := HB4.out.trans (hb.mono HB4.out.size)
    have HB5 := Lib.hid (hb5.alloc hb5.size (.cells (segV fr to_ sq ak fl wi ur gr Y m y) 26))
    have hba := (Below.refl w5.heap.size w5).alloc (Nat.le_refl _) (.cells (segV fr to_ sq ak fl wi ur gr Y m y) 26)
    have HS5 := Lib.hid (hs5.below hba)
    have HO5 := Lib.hid ((HO24.out.keep hb).keep hba).sl
    clear e1 e2 e3 hs5 hb hb5 hba HO4 HO24 HX4 HB4 EQ LR hr hr2 hr3 RD
    go_upto_region 10 with fail
    generalize w5.alloc (.cells (segV fr to_ sq ak fl wi ur gr Y m y) 26) = w6 at *
    generalize w5.heap.size = G at *
    obtain ⟨m0, m1, m2, m3, m4, m5, m6, m7, m8⟩ := HX5.out.cells9
    obtain ⟨r0, r1, r2, r3, r4, r5, r6, r7, r8⟩ := HY5.out.cells9
    go_region_held3 (fun w' => (w'.cell? ⟨w.heap.size, 0, none⟩ = some (.int .i64 fr) ∧ w'.cell? ⟨w.heap.size, 1, none⟩ = some (.int .i64 to_) ∧ w'.cell? ⟨w.heap.size, 2, none⟩ = some (.int .u32 sq) ∧ w'.cell? ⟨w.heap.size, 3, none⟩ = some (.int .u32 ak) ∧ w'.cell? ⟨w.heap.size, 4, none⟩ = some (.int .i64 fl) ∧ w'.cell? ⟨w.heap.size, 5, none⟩ = some (.int .i64 wi) ∧ w'.cell? ⟨w.heap.size, 6, none⟩ = some (.int .i64 ur) ∧ w'.cell? ⟨w.heap.size, 7, none⟩ = some (.int .i64 gr) ∧ w'.cell? ⟨w.heap.size, 8, none⟩ = some (.slice D2 m c2)) ∧ (w'.cell? ⟨G, 0, none⟩ = some (.int .i64 fr) ∧ w'.cell? ⟨G, 1, none⟩ = some (.int .i64 to_) ∧ w'.cell? ⟨G, 2, none⟩ = some (.int .u32 sq) ∧ w'.cell? ⟨G, 3, none⟩ = some (.int .u32 ak) ∧ w'.cell? ⟨G, 4, none⟩ = some (.int .i64 fl) ∧ w'.cell? ⟨G, 5, none⟩ = some (.int .i64 wi) ∧ w'.cell? ⟨G, 6, none⟩ = some (.int .i64 ur) ∧ w'.cell? ⟨G, 7, none⟩ = some (.int .i64 gr) ∧ w'.cell? ⟨G, 8, none⟩ = some (.slice Y m y)))
      (first | (with_reducible assumption) | (refine ⟨⟨?_, ?_, ?_, ?_, ?_, ?_, ?_, ?_, ?_⟩, ?_, ?_, ?_, ?_, ?_, ?_, ?_, ?_, ?_⟩ <;> (with_reducible assumption)) | (exact ⟨HX9.out.cells9, HY9.out.cells9⟩) | (exact ⟨HX8.out.cells9, HY8.out.cells9⟩) | (exact ⟨HX7.out.cells9, HY7.out.cells9⟩) | (exact ⟨HX5.out.cells9, HY5.out.cells9⟩))
      (first
        | (go_at_call 11
           refine (plain_any fr to_ sq ak fl wi ur gr _ m _ _).mono ?_
           rintro e w7 ⟨rfl, hb⟩
           first
             | (have HX8 := Lib.hid (HX7.out.below hb HX7.out.lt); have HY8 := Lib.hid (HY7.out.below hb HY7.out.lt); have HS8 := Lib.hid (HS7.out.below hb); have HO8 := Lib.hid (HO7.out.below hb); have HB8 := Lib.hid (HB7.out.trans (hb.mono HB7.out.size)))
             | (have HX7 := Lib.hid (HX5.out.below (below_dr hb) HX5.out.lt); have HY7 := Lib.hid (HY5.out.below (below_dr hb) HY5.out.lt); have HS7 := Lib.hid (HS5.out.below (below_dr hb)); have HO7 := Lib.hid (HO5.out.below (below_dr hb)); have HB7 := Lib.hid (HB5.out.trans ((below_dr hb).mono HB5.out.size)))
           clear hb)
        | (go_at_call 17
           refine (sames_any fr to_ sq ak fl wi ur gr D2 Y F m c2 y _ LF.out HO8.out HS8.out).mono ?_
           rintro e w9 ⟨rfl, hb⟩
           have HX9 := Lib.hid (HX8.out.below hb HX8.out.lt)
           have HY9 := Lib.hid (HY8.out.below hb HY8.out.lt)
           have HB9 := Lib.hid (HB8.out.trans (hb.mono HB8.out.size))
           clear hb))
    all_goals
      go_wp2_with fail
      go_ret
      exact ⟨by simp, HB9.out⟩
  · have ER : Hid (segR f t ⟨fr, to_, sq, ak, fl, wi, ur, gr⟩ F = []) := by show _ = _; rw [segR, if_neg hok]
    obtain ⟨z, hz, EZ⟩ : ∃ z, z ≠ 0 ∧ Hid (segE ⟨fr, to_, sq, ak, fl, wi, ur, gr⟩ m = z) := ⟨_, segE_bad _ _ (by rw [← LF.out]; exact hok), rfl⟩
    rw [EZ.out, ER.out]
    clear hok
    go_wp2_with fail
    go_ret
    exact ⟨by simp, HB4.out⟩
end Go.Proofs.Ytpnfdnnfhmecjaa
