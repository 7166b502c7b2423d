/-
  The walk of the law package's works.
-/
import Derived.Test.YtpnfdnnfhmecjaaSegO
import Derived.Test.YtpnfdnnfhmecjaaSegI
import Derived.Test.YtpnfdnnfhmecjaaPlainSeg2
namespace Go.Proofs.Ytpnfdnnfhmecjaa
open Go.RowKit
set_option linter.unusedVariables false

def exS : SG := ⟨0, 0, 0, 0, 2, 0, 0, 1460⟩
theorem exS_fits : fitsP exS := by unfold fitsP r16 exS; simp
theorem ex_read : readS 1 2 (segB 1 2 exS []) = some (exS, []) := seg_back 1 2 exS [] exS_fits (by decide) (by decide) (by decide) (by decide)
theorem ex_len : (segB 1 2 exS []).length = 24 := by rw [segB_length, opts_length]; rfl
set_option maxHeartbeats 4000000 in
set_option maxRecDepth 100000 in
theorem works_any (w : World) : Calls Try.prog 13 #[] w fun e w' => e = .returned (.bool true) ∧ Below w.heap.size w w' := by
  have EE : Hid (segE exS 0 = 0) := by show _ = _; rw [segE, if_pos exS_fits]; rfl
  have ER : Hid (segR 1 2 exS [] = segB 1 2 exS []) := by show _ = _; rw [segR, if_pos ⟨exS_fits, by decide⟩]
  have RD := Lib.hid ex_read
  have LN := Lib.hid ex_len
  have hb0 : Below w.heap.size w (w.alloc (.cells (segV 0 0 0 0 2 0 0 1460 none 0 0) 26)) := (Below.refl _ _).alloc (Nat.le_refl _) _
  have hx0 := blk_new w 26 (segV 0 0 0 0 2 0 0 1460 none 0 0)
  have HB := Lib.hid hb0
  have HX := Lib.hid hx0
  clear hb0 hx0
  go_enter Try.func13, Try.ntmps13
  go_wp2_with fail
  generalize w.alloc (.cells (segV 0 0 0 0 2 0 0 1460 none 0 0) 26) = v0 at *
  refine (segbuild_any 1 2 0 0 0 0 2 0 0 1460 none [] 0 0 _ rfl ⟨.inl rfl, by simp, by simp, fun _ => rfl⟩ (by omega) (by omega) (by omega) (by omega) (by omega) (by omega) (by omega) (by omega)).mono ?_
  rintro e v1 ⟨X, x, rfl, ho, hb⟩
  have ee : segE ⟨0, 0, 0, 0, 2, 0, 0, 1460⟩ ([] : List UInt8).length = 0 := EE.out
  have er : segR 1 2 ⟨0, 0, 0, 0, 2, 0, 0, 1460⟩ [] = segB 1 2 exS [] := ER.out
  rw [er] at ho ⊢
  rw [ee, LN.out]
  replace HB := Lib.hid (HB.out.trans (hb.mono HB.out.size))
  replace HX := Lib.hid (HX.out.below hb HX.out.lt)
  have HO := Lib.hid ho
  clear hb ho ee er
  go_wp2_with fail
  refine (segread_any 1 2 X (segB 1 2 exS []) 24 x _ LN.out HO.out.sl (by omega) (by omega) (by omega) (by omega) (by omega)).mono ?_
  rintro e v2 ⟨Y, y, rfl, hs, hb⟩
  have e1 : rS 1 2 (segB 1 2 exS []) = exS := by rw [rS, RD.out]
  have e2 : rD 1 2 (segB 1 2 exS []) = [] := by rw [rD, RD.out]
  have e3 : rE 1 2 (segB 1 2 exS []) = 0 := by rw [rE, RD.out]; rfl
  rw [e1, e2, e3, show segS exS Y ([] : List UInt8).length y = segV 0 0 0 0 2 0 0 1460 Y 0 y from rfl]
  replace HB := Lib.hid (HB.out.trans (hb.mono HB.out.size))
  replace HX := Lib.hid (HX.out.below hb HX.out.lt)
  clear hb hs e1 e2 e3 HO
  have HX2 := Lib.hid (blk_old HX.out (.cells (segV 0 0 0 0 2 0 0 1460 Y 0 y) 26))
  have HY2 := Lib.hid (blk_new v2 26 (segV 0 0 0 0 2 0 0 1460 Y 0 y))
  have HB2 := Lib.hid (HB.out.alloc HB.out.size (.cells (segV 0 0 0 0 2 0 0 1460 Y 0 y) 26))
  clear HX HB
  obtain ⟨x0, x1, x2, x3, x4, x5, x6, x7, x8⟩ := HX2.out.cells9
  go_wp2_with fail
  refine (span_ex 0 0 0 0 0 0 1460 none 0 _).mono ?_
  rintro e v3 ⟨rfl, hb⟩
  replace HB2 := Lib.hid (HB2.out.trans (hb.mono HB2.out.size))
  replace HY2 := Lib.hid (HY2.out.below hb HY2.out.lt)
  clear hb HX2 x0 x1 x2 x3 x4 x5 x6 x7 x8
  obtain ⟨x0, x1, x2, x3, x4, x5, x6, x7, x8⟩ := HY2.out.cells9
  go_wp2_with fail
  refine (flags_ex 0 0 0 0 0 0 1460 Y 0 y _).mono ?_
  rintro e v4 ⟨rfl, hb⟩
  replace HB2 := Lib.hid (HB2.out.trans (hb.mono HB2.out.size))
  clear hb
  go_wp2_with fail
  go_ret
  exact ⟨by simp, HB2.out⟩
theorem below_dr {w w' : World} (hb : Below w.drew.heap.size w.drew w') : Below w.heap.size w w' := ((show Drawn w w.drew from ⟨1, rfl⟩).below _).trans hb
theorem segE_bad (s : SG) (n : Nat) (h : ¬ (fitsP s ∧ (n : Int) ≤ 65495)) : segE s n ≠ 0 := by
  unfold segE
  by_cases h1 : fitsP s
  · rw [if_pos h1, if_neg (fun h2 => h ⟨h1, h2⟩)]; decide
  · rw [if_neg h1]; decide
end Go.Proofs.Ytpnfdnnfhmecjaa
