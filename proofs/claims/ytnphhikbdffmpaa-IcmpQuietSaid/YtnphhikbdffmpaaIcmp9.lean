/-
  The walk of the reference's Answer.
-/
import Derived.Test.YtnphhikbdffmpaaIcmp8
namespace Go.Proofs.Ytnphhikbdffmpaa
open Go.RowKit

set_option maxHeartbeats 4000000 in
set_option maxRecDepth 100000 in
theorem ranswer_any (me id at_ life kind : Int) (wh mo : Bool) (f t : Int) (D : Option Addr) (bs : List UInt8) (n c : Nat) (w : World) (hn : bs.length = n) (hs : Sl w D c bs) (hl : bs.length ≤ 70000) :
    Calls Try.prog 17 #[.int .u32 me, .agg (packet id at_ life kind wh mo f t D n c)] w (Answered (decide (ansOk me at_ kind mo t bs)) me id f bs w) := by
  have hb1 : Below w.heap.size w ((w.alloc (.cells (packet id at_ life kind wh mo f t D n c) 45)).alloc (.cells (packet 0 0 0 0 false false 0 0 none 0 0) 45)) := ((Below.refl _ _).alloc (Nat.le_refl _) _).alloc (by simp) _
  have hs1 := hs.below hb1
  have hbx := blk_old (blk_new w 45 (packet id at_ life kind wh mo f t D n c)) (.cells (packet 0 0 0 0 false false 0 0 none 0 0) 45)
  have hrs := blk_new (w.alloc (.cells (packet id at_ life kind wh mo f t D n c) 45)) 45 (packet 0 0 0 0 false false 0 0 none 0 0)
  have hG : (w.alloc (.cells (packet id at_ life kind wh mo f t D n c) 45)).heap.size = w.heap.size + 1 := by simp
  rw [hG] at hrs
  clear hG hs
  have HN := Lib.hid hn
  have HL := Lib.hid hl
  clear hn hl
  go_enter Try.func17, Try.ntmps17
  go_wp2_with fail
  generalize (w.alloc (.cells (packet id at_ life kind wh mo f t D n c) 45)).alloc (.cells (packet 0 0 0 0 false false 0 0 none 0 0) 45) = w1 at *
  refine (rread_n D bs n c w1 HN.out hs1 HL.out).mono ?_
  rintro e w2 ⟨X, x, rfl, ho, hb2⟩
  have hrb := restR_bd bs
  obtain ⟨kR, EK⟩ : ∃ z, Hid (kindR bs = z) := ⟨_, rfl⟩
  obtain ⟨cR, EC⟩ : ∃ z, Hid (codeR bs = z) := ⟨_, rfl⟩
  obtain ⟨rR, ER⟩ : ∃ z, Hid (restR bs = z) := ⟨_, rfl⟩
  obtain ⟨eR, EE⟩ : ∃ z, Hid (errR bs = z) := ⟨_, rfl⟩
  obtain ⟨dn, ED⟩ : ∃ z, Hid ((dataR bs).length = z) := ⟨_, rfl⟩
  rw [EK.out, EC.out, ER.out, EE.out, ED.out]
  rw [ER.out] at hrb
  have hz1 : w.heap.size ≤ w1.heap.size := hb1.size
  replace hb1 := hb1.trans (hb2.mono hb1.size)
  have HB2 := Lib.hid hb1
  have HBX2 := Lib.hid (hbx.below hb2 hbx.lt)
  have HRS2 := Lib.hid (hrs.below hb2 hrs.lt)
  have HOO := Lib.hid (ho.base (B' := w.heap.size) hz1)
  have hb1' := hb1.alloc hb1.size (.cells #[.int .i64 kR, .int .i64 cR, .int .u32 rR, .slice X dn x] 31)
  replace hbx := blk_old (hbx.below hb2 hbx.lt) (.cells #[.int .i64 kR, .int .i64 cR, .int .u32 rR, .slice X dn x] 31)
  replace hrs := blk_old (hrs.below hb2 hrs.lt) (.cells #[.int .i64 kR, .int .i64 cR, .int .u32 rR, .slice X dn x] 31)
  have hms := blk_new w2 31 #[.int .i64 kR, .int .i64 cR, .int .u32 rR, .slice X dn x]
  have ho2 := (ho.base (B' := w.heap.size) hz1).keep ((Below.refl _ _).alloc (Nat.le_refl _) (.cells #[.int .i64 kR, .int .i64 cR, .int .u32 rR, .slice X dn x] 31))
  clear ho hb2 hb1 hs1
  obtain ⟨x0, x1, x2, x3, x4, x5, x6, x7, x8⟩ := hbx.cells9
  obtain ⟨r0, r1, r2, r3, r4, r5, r6, r7, r8⟩ := hrs.cells9
  obtain ⟨f0, f1, f2, f3, f4, f5, f6, f7, f8⟩ := hrs.frees9
  obtain ⟨hkz, hgz⟩ := hrs.store9 (.int .i64 0) (.int .i64 0) (.int .i64 0) (.int .i64 0) (.bool false) (.bool false) (.int .u32 0) (.int .u32 0) (.slice none 0 0)
  have HKZ := Lib.hid hkz
  have HBZ := Lib.hid (below_grown hb1' hgz (Nat.le_refl _) (by omega))
  clear hkz hgz
  have HBX := Lib.hid hbx
  have HRS := Lib.hid hrs
  have HMS := Lib.hid hms
  have HB1 := Lib.hid hb1'
  have HO2 := Lib.hid ho2
  clear hbx hrs hms hb1' ho2
  cases h1 : (kind != 1)
  · have _t0 := trivial
    cases h2 : (t != me)
    · have _t1 := trivial
      cases h3 : (at_ != 0)
      · have _t2 := trivial
        cases mo
        · have _t3 := trivial
          cases h5 : (eR != 0)
          · have _t4 := trivial
            cases h6 : (kR != 8)
            · have _t5 := trivial
              cases h7 : (cR != 0)
              · have _t6 := trivial
                obtain rfl : cR = 0 := by simpa using h7
                go_wp2_with fail
                have hb3 := HB2.out.alloc HB2.out.size (.cells #[.int .i64 0, .int .i64 0, .int .u32 rR, .slice X dn x] 31)
                have hbx3 := blk_old HBX2.out (.cells #[.int .i64 0, .int .i64 0, .int .u32 rR, .slice X dn x] 31)
                have hrs3 := blk_old HRS2.out (.cells #[.int .i64 0, .int .i64 0, .int .u32 rR, .slice X dn x] 31)
                have ho3 := HOO.out.keep ((Below.refl _ _).alloc (Nat.le_refl _) (.cells #[.int .i64 0, .int .i64 0, .int .u32 rR, .slice X dn x] 31))
                clear x0 x1 x2 x3 x4 x5 x6 x7 x8 r0 r1 r2 r3 r4 r5 r6 r7 r8 f0 f1 f2 f3 f4 f5 f6 f7 f8
                clear HBX HRS HMS HB1 HO2
                generalize w2.alloc (.cells #[.int .i64 0, .int .i64 0, .int .u32 rR, .slice X dn x] 31) = w3 at *
                refine (rbuild_n 0 0 rR X (dataR bs) dn x _ ED.out hrb.1 hrb.2 ho3.sl).mono ?_
                rintro e w4 ⟨X2, x2, rfl, ho4, hb4⟩
                replace hbx3 := hbx3.below hb4 hbx3.lt
                replace hrs3 := hrs3.below hb4 hrs3.lt
                have ho5 := ho4.base hb3.size
                replace hb3 := hb3.trans (hb4.mono hb3.size)
                obtain ⟨x0, x1, x2', x3, x4, x5, x6, x7, x8⟩ := hbx3.cells9
                obtain ⟨zE, EZ⟩ : ∃ z, Hid (errB 0 0 (dataR bs).length = z) := ⟨_, rfl⟩
                rw [EZ.out]
                have HO := Lib.hid ho5
                have HB3 := Lib.hid hb3
                have HRS3 := Lib.hid hrs3
                obtain ⟨hkz, hgz⟩ := hrs3.store9 (.int .i64 0) (.int .i64 0) (.int .i64 0) (.int .i64 0) (.bool false) (.bool false) (.int .u32 0) (.int .u32 0) (.slice none 0 0)
                clear HKZ HBZ
                have HKZ := Lib.hid hkz
                have HBZ := Lib.hid (below_grown hb3 hgz (Nat.le_refl _) (by omega))
                clear hkz hgz
                obtain ⟨ol, EOL⟩ : ∃ z, Hid ((outB 0 0 rR (dataR bs)).length = z) := ⟨_, rfl⟩
                rw [EOL.out]
                clear ho5 hb3 hrs3 hbx3 ho3 ho4 hb4
                cases h8 : (zE != 0)
                · obtain rfl : zE = 0 := by simpa using h8
                  have eo : outB 0 0 rR (dataR bs) = msg 0 0 rR (dataR bs) := by rw [outB, if_pos EZ.out]
                  rw [eo] at HO EOL
                  have HOK : Hid (ansOk me at_ kind false t bs) := by
                    refine ⟨⟨by simpa using h1, by simpa using h2, by simpa using h3, rfl⟩, ?_, ?_, EC.out, EZ.out⟩
                    · rw [EE.out]; simpa using h5
                    · rw [EK.out]; simpa using h6
                  clear eo
                  have hrs5 := HRS3.out
                  have ho5 := HO.out
                  have hb6 := HB3.out
                  obtain ⟨r0, r1, r2, r3, r4, r5, r6, r7, r8⟩ := hrs5.cells9
                  obtain ⟨f0, f1, f2, f3, f4, f5, f6, f7, f8⟩ := hrs5.frees9
                  obtain ⟨hk, hg⟩ := hrs5.store9 (.int .i64 id) (.int .i64 0) (.int .i64 64) (.int .i64 1) (.bool false) (.bool false) (.int .u32 me) (.int .u32 f) (.slice X2 ol x2)
                  have HK := Lib.hid hk
                  have HBF := Lib.hid (below_grown hb6 hg (Nat.le_refl _) (by omega))
                  have HOF := Lib.hid (ho5.grown hrs5 (by decide) hg)
                  clear hk hg hrs5 ho5 hb6
                  go_wp2_with fail
                  generalize World.setCell _ _ (Value.slice X2 ol x2) = w6 at HK HBF HOF ⊢
                  skip
                  obtain ⟨d0, d1, d2, d3, d4, d5, d6, d7, d8⟩ := HK.out.cells9
                  refine bodyPost_ret (v := .tuple #[.agg (packet id 0 64 1 false false me f X2 ol x2), .int .i64 0]) (by simp [results, Try.results17, go_sem, d0, d1, d2, d3, d4, d5, d6, d7, d8]) rfl (answered_yes HOK.out (X := X2) (x := x2) ?_ ?_ HBF.out)
                  · rw [ER.out, EOL.out]
                  · rw [ER.out]; exact HOF.out
                · obtain ⟨r0, r1, r2, r3, r4, r5, r6, r7, r8⟩ := HRS3.out.cells9
                  obtain ⟨f0, f1, f2, f3, f4, f5, f6, f7, f8⟩ := HRS3.out.frees9
                  go_wp2_with fail
                  generalize World.setCell _ _ (Value.slice none 0 0) = w5 at HKZ HBZ ⊢
                  obtain ⟨d0, d1, d2, d3, d4, d5, d6, d7, d8⟩ := HKZ.out.cells9
                  exact bodyPost_ret (v := .tuple #[.agg packet0, .int .i64 5]) (by simp [results, Try.results17, go_sem, d0, d1, d2, d3, d4, d5, d6, d7, d8]) rfl (answered_no (ans_no (.inr (.inr (.inr (.inr (.inr (.inr (.inr (by rw [EZ.out]; exact h8))))))))) rfl HBZ.out)
              · go_wp2_with fail
                generalize World.setCell _ _ (Value.slice none 0 0) = w5 at HKZ HBZ ⊢
                obtain ⟨d0, d1, d2, d3, d4, d5, d6, d7, d8⟩ := HKZ.out.cells9
                exact bodyPost_ret (v := .tuple #[.agg packet0, .int .i64 5]) (by simp [results, Try.results17, go_sem, d0, d1, d2, d3, d4, d5, d6, d7, d8]) rfl (answered_no (ans_no (.inr (.inr (.inr (.inr (.inr (.inr (.inl (by rw [EC.out]; exact h7))))))))) rfl HBZ.out)
            · go_wp2_with fail
              generalize World.setCell _ _ (Value.slice none 0 0) = w5 at HKZ HBZ ⊢
              obtain ⟨d0, d1, d2, d3, d4, d5, d6, d7, d8⟩ := HKZ.out.cells9
              exact bodyPost_ret (v := .tuple #[.agg packet0, .int .i64 5]) (by simp [results, Try.results17, go_sem, d0, d1, d2, d3, d4, d5, d6, d7, d8]) rfl (answered_no (ans_no (.inr (.inr (.inr (.inr (.inr (.inl (by rw [EK.out]; exact h6)))))))) rfl HBZ.out)
          · go_wp2_with fail
            generalize World.setCell _ _ (Value.slice none 0 0) = w5 at HKZ HBZ ⊢
            obtain ⟨d0, d1, d2, d3, d4, d5, d6, d7, d8⟩ := HKZ.out.cells9
            exact bodyPost_ret (v := .tuple #[.agg packet0, .int .i64 5]) (by simp [results, Try.results17, go_sem, d0, d1, d2, d3, d4, d5, d6, d7, d8]) rfl (answered_no (ans_no (.inr (.inr (.inr (.inr (.inl (by rw [EE.out]; exact h5))))))) rfl HBZ.out)
        · go_wp2_with fail
          generalize World.setCell _ _ (Value.slice none 0 0) = w5 at HKZ HBZ ⊢
          obtain ⟨d0, d1, d2, d3, d4, d5, d6, d7, d8⟩ := HKZ.out.cells9
          exact bodyPost_ret (v := .tuple #[.agg packet0, .int .i64 5]) (by simp [results, Try.results17, go_sem, d0, d1, d2, d3, d4, d5, d6, d7, d8]) rfl (answered_no (ans_no (.inr (.inr (.inr (.inl rfl))))) rfl HBZ.out)
      · go_wp2_with fail
        generalize World.setCell _ _ (Value.slice none 0 0) = w5 at HKZ HBZ ⊢
        obtain ⟨d0, d1, d2, d3, d4, d5, d6, d7, d8⟩ := HKZ.out.cells9
        exact bodyPost_ret (v := .tuple #[.agg packet0, .int .i64 5]) (by simp [results, Try.results17, go_sem, d0, d1, d2, d3, d4, d5, d6, d7, d8]) rfl (answered_no (ans_no (.inr (.inr (.inl h3)))) rfl HBZ.out)
    · go_wp2_with fail
      generalize World.setCell _ _ (Value.slice none 0 0) = w5 at HKZ HBZ ⊢
      obtain ⟨d0, d1, d2, d3, d4, d5, d6, d7, d8⟩ := HKZ.out.cells9
      exact bodyPost_ret (v := .tuple #[.agg packet0, .int .i64 5]) (by simp [results, Try.results17, go_sem, d0, d1, d2, d3, d4, d5, d6, d7, d8]) rfl (answered_no (ans_no (.inr (.inl h2))) rfl HBZ.out)
  · go_wp2_with fail
    generalize World.setCell _ _ (Value.slice none 0 0) = w5 at HKZ HBZ ⊢
    obtain ⟨d0, d1, d2, d3, d4, d5, d6, d7, d8⟩ := HKZ.out.cells9
    exact bodyPost_ret (v := .tuple #[.agg packet0, .int .i64 5]) (by simp [results, Try.results17, go_sem, d0, d1, d2, d3, d4, d5, d6, d7, d8]) rfl (answered_no (ans_no (.inl h1)) rfl HBZ.out)
end Go.Proofs.Ytnphhikbdffmpaa
