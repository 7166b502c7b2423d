/-
  The walk of the law package's works.
-/
import Derived.Test.YthchjfkbaocoiaaEthF
namespace Go.Proofs.Ythchjfkbaocoiaa
open Go.RowKit
set_option linter.unusedVariables false

def exText : List UInt8 := [48, 50, 58, 48, 48, 58, 48, 48, 58, 48, 48, 58, 48, 48, 58, 48, 97]
def exMac : List UInt8 := [2, 0, 0, 0, 0, 10]
theorem ex_parse : parseM exText = exMac ∧ parseE exText = 0 ∧ text exMac = exText ∧ groupB exMac = false := by decide +kernel
theorem macv_ex : macv exMac = #[.int .u8 2, .int .u8 0, .int .u8 0, .int .u8 0, .int .u8 0, .int .u8 10] := rfl
set_option maxHeartbeats 4000000 in
set_option maxRecDepth 100000 in
theorem works_any (w : World) : Calls Try.prog 8 #[] w fun e w' => e = .returned (.bool true) ∧ Below w.heap.size w w' := by
  have hq := mac_eq exMac exMac rfl rfl
  have hg := mac_guard
  rw [show (exMac == exMac) = true from by decide, macv_ex] at hq
  have PA := Lib.hid (parse_any ⟨exText.toArray⟩ w (by decide))
  have EP := Lib.hid ex_parse
  go_enter Try.func8, Try.ntmps8
  go_wp2_with fail
  refine PA.out.mono ?_
  rintro e w1 ⟨rfl, hb⟩
  rw [EP.out.1, EP.out.2.1, macv_ex]
  have GR := Lib.hid (group_any exMac (w1.alloc (.cells (macv exMac) 23)) rfl)
  rw [EP.out.2.2.2, macv_ex] at GR
  go_wp2_with fail
  refine GR.out.mono ?_
  rintro e w2 ⟨rfl, hb2⟩
  have hbx : Blk w2 w1.heap.size 23 (macv exMac) := (blk_new w1 _ _).below hb2 (by simp)
  rw [macv_ex] at hbx
  obtain ⟨c0, c1, c2, c3, c4, c5⟩ := hbx.cells6
  have TX := Lib.hid (text_any exMac w2 rfl)
  rw [EP.out.2.2.1, macv_ex] at TX
  have HB : Hid (Below w.heap.size w w2) := (hb.alloc hb.size _).trans (hb2.mono (by have := hb.size; simp; omega))
  clear hb hb2 hbx
  go_wp2_with fail
  refine TX.out.mono ?_
  rintro e w3 ⟨rfl, hb3⟩
  go_wp2_with fail
  go_ret
  exact ⟨by first | rfl | simp [exText], HB.out.trans (hb3.mono HB.out.size)⟩
end Go.Proofs.Ythchjfkbaocoiaa
