/-
  The walk of the law SegFinds.
-/
import Derived.Test.YtpnfdnnfhmecjaaSegL
import Derived.Test.YtpnfdnnfhmecjaaSegWorks
import Derived.Test.YtpnfdnnfhmecjaaPlainSeg2
namespace Go.Proofs.Ytpnfdnnfhmecjaa
open Go.RowKit
set_option linter.unusedVariables false

theorem u8_xor_int (x z : UInt8) : bits .xor .u8 (x.toNat : Int) (z.toNat : Int) = ((x ^^^ z).toNat : Int) := by
  rw [u8_xor_nat x.toNat z.toNat x.toNat_lt z.toNat_lt, UInt8.toNat_xor]
theorem xor_ne (x z : UInt8) (h : (z.toNat : Int) ≠ 0) : x ^^^ z ≠ x := by
  intro e
  apply h
  have : x ^^^ (x ^^^ z) = x ^^^ x := by rw [e]
  rw [← UInt8.xor_assoc, UInt8.xor_self, UInt8.zero_xor] at this
  rw [this]; rfl
set_option maxHeartbeats 4000000 in
set_option maxRecDepth 100000 in
theorem segFinds_walk (f t fr to_ sq ak fl wi ur gr at_ z : Int) (D : Option Addr) (d : List UInt8) (n c : Nat) (w : World) (hn : d.length = n) (hs : Sl w D c d) (f0 : 0 ≤ f) (f1 : f < 4294967296) (t0 : 0 ≤ t) (t1 : t < 4294967296) (s0 : 0 ≤ sq) (s1 : sq < 4294967296) (k0 : 0 ≤ ak) (k1 : ak < 4294967296) (z0 : 0 ≤ z) (z1 : z < 256) :
    Calls Try.prog 6 #[.int .u32 f, .int .u32 t, .agg (segV fr to_ sq ak fl wi ur gr D n c), .int .i64 at_, .int .u8 z] w fun e w' => e = .returned (.bool true) ∧ Below w.heap.size w w' := by
  obtain ⟨zz, rfl⟩ : ∃ zz : UInt8, z = (zz.toNat : Int) := ⟨u8 z, (u8_toNat z z0 z1).symm⟩
  have hb1 : Below w.heap.size w (w.alloc (.cells (segV fr to_ sq ak fl wi ur gr D n c) 26)) := (Below.refl _ _).alloc (Nat.le_refl _) _
  have hbx := blk_new w 26 (segV fr to_ sq ak fl wi ur gr D n c)
  replace hs := hs.below hb1
  have HN := Lib.hid hn
  have EB := Lib.hid (fun (D : Option Addr) (d : List UInt8) (n c : Nat) (w : World) hn hs => segbuild_any f t fr to_ sq ak fl wi ur gr D d n c w hn hs f0 f1 t0 t1 s0 s1 k0 k1)
  have RD := Lib.hid (fun (D : Option Addr) (d : List UInt8) (n c : Nat) (w : World) hn hs hl => segread_any f t D d n c w hn hs hl f0 f1 t0 t1)
  clear hn f0 f1 t0 t1 s0 s1 k0 k1
  go_enter Try.func6, Try.ntmps6
  go_upto_region 1 with fail
  generalize w.alloc (.cells (segV fr to_ sq ak fl wi ur gr D n c) 26) = w1 at *
  have HB := Lib.hid hb1
  have HX := Lib.hid hbx
  have HS := Lib.hid hs
  clear hb1 hbx hs
  go_wp2_with fail
  refine (works_any _).mono ?_
  rintro e w1b ⟨rfl, hb⟩
  replace HB := Lib.hid (HB.out.trans (hb.mono HB.out.size))
  replace HX := Lib.hid (HX.out.below hb HX.out.lt)
  replace HS := Lib.hid (HS.out.below hb)
  clear hb
  obtain ⟨m0, m1, m2, m3, m4, m5, m6, m7, m8⟩ := HX.out.cells9
  go_wp2_with fail
  refine (fews_any fr to_ sq ak fl wi ur gr D d n c _ HN.out HS.out).mono ?_
  rintro e w2 ⟨D2, c2, rfl, ho, hb⟩
  obtain ⟨F, EF⟩ : ∃ F, Hid (fewS d = F) := ⟨_, rfl⟩
  rw [EF.out] at ho ⊢
  obtain ⟨m, LF⟩ : ∃ m, Hid (F.length = m) := ⟨_, rfl⟩
  rw [LF.out]
  have HB2 := Lib.hid (HB.out.trans (hb.mono HB.out.size))
  have HO2 := Lib.hid (ho.base HB.out.size)
  clear ho hb m0 m1 m2 m3 m4 m5 m6 m7 m8 HX HB HS
  go_wp2_with fail
  refine (EB.out D2 F m c2 _ LF.out HO2.out.sl).mono ?_
  rintro e w4 ⟨X, x, rfl, ho, hb⟩
  rw [LF.out]
  have HB4 := Lib.hid (HB2.out.trans (hb.mono HB2.out.size))
  have HO4 := Lib.hid (ho.base HB2.out.size)
  clear ho hb HB2 HO2
  by_cases hok : fitsP ⟨fr, to_, sq, ak, fl, wi, ur, gr⟩ ∧ (F.length : Int) ≤ 65495
  · obtain ⟨hfit, hlen⟩ := hok
    have ER : Hid (segR f t ⟨fr, to_, sq, ak, fl, wi, ur, gr⟩ F = segB f t ⟨fr, to_, sq, ak, fl, wi, ur, gr⟩ F) := by show _ = _; rw [segR, if_pos ⟨hfit, hlen⟩]
    have EE : Hid (segE ⟨fr, to_, sq, ak, fl, wi, ur, gr⟩ m = 0) := by show _ = _; rw [segE, if_pos hfit, if_pos (by rw [← LF.out]; exact hlen)]
    have FND := Lib.hid (fun k y hk hy => seg_finds f t ⟨fr, to_, sq, ak, fl, wi, ur, gr⟩ F k y hk hy)
    obtain ⟨r, LR⟩ : ∃ r, Hid ((segB f t ⟨fr, to_, sq, ak, fl, wi, ur, gr⟩ F).length = r) := ⟨_, rfl⟩
    have hr : 20 ≤ r := by
      have h1 := LR.out
      rw [segB_length] at h1
      omega
    rw [ER.out, EE.out, LR.out]
    rw [ER.out] at HO4
    generalize segB f t ⟨fr, to_, sq, ak, fl, wi, ur, gr⟩ F = BB at *
    clear hfit hlen ER EE EB
    by_cases hz : (zz.toNat : Int) = 0
    · rw [hz]
      go_wp2_with fail
      go_ret
      exact ⟨by simp, HB4.out⟩
    · by_cases hr2 : (2000 : Int) < (r : Int)
      · go_wp2_with fail
        go_ret
        exact ⟨by simp, HB4.out⟩
      · have hzb : ((zz.toNat : Int) == 0) = false := by simpa using hz
        have hrb : decide ((2000 : Int) < (r : Int)) = false := by simpa using hr2
        go_wp2_with fail
        refine (among_any at_ r _ (by omega) (by omega)).mono ?_
        rintro e w5 ⟨rfl, rfl⟩
        have hm := among_bd at_ r (by omega)
        generalize among at_ r = k at hm ⊢
        obtain ⟨kk, rfl⟩ := Int.eq_ofNat_of_zero_le hm.1
        have hk1 : kk < r := by omega
        obtain ⟨gg, rfl, hg1, hg2⟩ := HO4.out.form (by rw [LR.out]; omega)
        have ck := HO4.out.row.cell kk (by rw [LR.out]; exact hk1)
        have fk := HO4.out.row.free kk
        obtain ⟨xx, EX⟩ : ∃ xx, Hid (BB.getD kk 0 = xx) := ⟨_, rfl⟩
        rw [EX.out] at ck
        have hxx := xx.toNat_lt
        have hzz := zz.toNat_lt
        go_upto_region 8 with fail
        rw [u8_xor_int]
        have hyl := (xx ^^^ zz).toNat_lt
        have hrow := HO4.out.row.set kk ((xx ^^^ zz).toNat : Int) (by omega) (by omega)
        rw [u8_of] at hrow
        have HSL := Lib.hid hrow.sl
        have HBX := Lib.hid (below_grown HB4.out (grown_set gg kk (.int .u8 ((xx ^^^ zz).toNat : Int))) (Nat.le_refl _) hg1)
        have HNO : Hid (readS f t (BB.set kk (xx ^^^ zz)) = none) := FND.out kk (xx ^^^ zz) (by rw [LR.out]; exact hk1) (by rw [EX.out]; exact xor_ne xx zz hz)
        have LS : Hid ((BB.set kk (xx ^^^ zz)).length = r) := by show _ = _; rw [List.length_set, LR.out]
        clear hrow hyl ck fk hxx hzz hz hzb HB4 HO4 FND EX LR
        generalize BB.set kk (xx ^^^ zz) = BX at *
        generalize w4.setCell ⟨gg, kk, none⟩ (.int .u8 ((xx ^^^ zz).toNat : Int)) = w5 at *
        go_wp2_with fail
        refine (RD.out (some ⟨gg, 0, none⟩) BX r x _ LS.out HSL.out (by omega)).mono ?_
        rintro e w6 ⟨Y, y, rfl, hs6, hb⟩
        have e1 : rS f t BX = sg0 := by rw [rS, HNO.out]
        have e2 : rD f t BX = [] := by rw [rD, HNO.out]
        have e3 : rE f t BX = 110 := by rw [rE, HNO.out]; rfl
        rw [e1, e2, e3, show segS sg0 Y ([] : List UInt8).length y = segV 0 0 0 0 0 0 0 0 Y 0 y from rfl]
        have hb6 := HBX.out.trans (hb.mono HBX.out.size)
        have HB6 := Lib.hid (hb6.alloc hb6.size (.cells (segV 0 0 0 0 0 0 0 0 Y 0 y) 26))
        clear e1 e2 e3 hs6 hb hb6
        go_wp2_with fail
        go_ret
        exact ⟨by simp, HB6.out⟩
  · have ER : Hid (segR f t ⟨fr, to_, sq, ak, fl, wi, ur, gr⟩ F = []) := by show _ = _; rw [segR, if_neg hok]
    obtain ⟨z, hz, EZ⟩ : ∃ z, z ≠ 0 ∧ Hid (segE ⟨fr, to_, sq, ak, fl, wi, ur, gr⟩ m = z) := ⟨_, segE_bad _ _ (by rw [← LF.out]; exact hok), rfl⟩
    rw [EZ.out, ER.out]
    clear hok
    go_wp2_with fail
    go_ret
    exact ⟨by simp, HB4.out⟩
end Go.Proofs.Ytpnfdnnfhmecjaa
