/-
  same of frames.
-/
import Derived.Test.YthchjfkbaocoiaaEthBuildsWalk
namespace Go.Proofs.Ythchjfkbaocoiaa
open Go.RowKit
set_option linter.unusedVariables false

set_option maxHeartbeats 4000000 in
set_option maxRecDepth 100000 in
theorem samef_any (x0 x1 x2 x3 x4 x5 x6 x7 x8 x9 x10 x11 : UInt8) (k : Int) (A B : Option Addr) (xs : List UInt8) (n c d : Nat) (w : World) (hn : xs.length = n) (hx : Sl w A c xs) (hy : Sl w B d xs) :
    Calls Try.prog 26 #[.agg #[(.int .u8 (x0.toNat : Int)), (.int .u8 (x1.toNat : Int)), (.int .u8 (x2.toNat : Int)), (.int .u8 (x3.toNat : Int)), (.int .u8 (x4.toNat : Int)), (.int .u8 (x5.toNat : Int)), (.int .u8 (x6.toNat : Int)), (.int .u8 (x7.toNat : Int)), (.int .u8 (x8.toNat : Int)), (.int .u8 (x9.toNat : Int)), (.int .u8 (x10.toNat : Int)), (.int .u8 (x11.toNat : Int)), .int .u16 k, .slice A n c], .agg #[(.int .u8 (x0.toNat : Int)), (.int .u8 (x1.toNat : Int)), (.int .u8 (x2.toNat : Int)), (.int .u8 (x3.toNat : Int)), (.int .u8 (x4.toNat : Int)), (.int .u8 (x5.toNat : Int)), (.int .u8 (x6.toNat : Int)), (.int .u8 (x7.toNat : Int)), (.int .u8 (x8.toNat : Int)), (.int .u8 (x9.toNat : Int)), (.int .u8 (x10.toNat : Int)), (.int .u8 (x11.toNat : Int)), .int .u16 k, .slice B n d]] w fun e w' => e = .returned (.bool true) ∧ Below w.heap.size w w' := by
  have hb : Below w.heap.size w ((w.alloc (.cells #[(.int .u8 (x0.toNat : Int)), (.int .u8 (x1.toNat : Int)), (.int .u8 (x2.toNat : Int)), (.int .u8 (x3.toNat : Int)), (.int .u8 (x4.toNat : Int)), (.int .u8 (x5.toNat : Int)), (.int .u8 (x6.toNat : Int)), (.int .u8 (x7.toNat : Int)), (.int .u8 (x8.toNat : Int)), (.int .u8 (x9.toNat : Int)), (.int .u8 (x10.toNat : Int)), (.int .u8 (x11.toNat : Int)), .int .u16 k, .slice A n c] 37)).alloc (.cells #[(.int .u8 (x0.toNat : Int)), (.int .u8 (x1.toNat : Int)), (.int .u8 (x2.toNat : Int)), (.int .u8 (x3.toNat : Int)), (.int .u8 (x4.toNat : Int)), (.int .u8 (x5.toNat : Int)), (.int .u8 (x6.toNat : Int)), (.int .u8 (x7.toNat : Int)), (.int .u8 (x8.toNat : Int)), (.int .u8 (x9.toNat : Int)), (.int .u8 (x10.toNat : Int)), (.int .u8 (x11.toNat : Int)), .int .u16 k, .slice B n d] 42)) := ((Below.refl _ _).alloc (Nat.le_refl _) _).alloc (by simp) _
  have h0 : Blk ((w.alloc (.cells #[(.int .u8 (x0.toNat : Int)), (.int .u8 (x1.toNat : Int)), (.int .u8 (x2.toNat : Int)), (.int .u8 (x3.toNat : Int)), (.int .u8 (x4.toNat : Int)), (.int .u8 (x5.toNat : Int)), (.int .u8 (x6.toNat : Int)), (.int .u8 (x7.toNat : Int)), (.int .u8 (x8.toNat : Int)), (.int .u8 (x9.toNat : Int)), (.int .u8 (x10.toNat : Int)), (.int .u8 (x11.toNat : Int)), .int .u16 k, .slice A n c] 37)).alloc (.cells #[(.int .u8 (x0.toNat : Int)), (.int .u8 (x1.toNat : Int)), (.int .u8 (x2.toNat : Int)), (.int .u8 (x3.toNat : Int)), (.int .u8 (x4.toNat : Int)), (.int .u8 (x5.toNat : Int)), (.int .u8 (x6.toNat : Int)), (.int .u8 (x7.toNat : Int)), (.int .u8 (x8.toNat : Int)), (.int .u8 (x9.toNat : Int)), (.int .u8 (x10.toNat : Int)), (.int .u8 (x11.toNat : Int)), .int .u16 k, .slice B n d] 42)) w.heap.size 37 #[(.int .u8 (x0.toNat : Int)), (.int .u8 (x1.toNat : Int)), (.int .u8 (x2.toNat : Int)), (.int .u8 (x3.toNat : Int)), (.int .u8 (x4.toNat : Int)), (.int .u8 (x5.toNat : Int)), (.int .u8 (x6.toNat : Int)), (.int .u8 (x7.toNat : Int)), (.int .u8 (x8.toNat : Int)), (.int .u8 (x9.toNat : Int)), (.int .u8 (x10.toNat : Int)), (.int .u8 (x11.toNat : Int)), .int .u16 k, .slice A n c] := blk_old (blk_new _ _ _) _
  have h1 : Blk ((w.alloc (.cells #[(.int .u8 (x0.toNat : Int)), (.int .u8 (x1.toNat : Int)), (.int .u8 (x2.toNat : Int)), (.int .u8 (x3.toNat : Int)), (.int .u8 (x4.toNat : Int)), (.int .u8 (x5.toNat : Int)), (.int .u8 (x6.toNat : Int)), (.int .u8 (x7.toNat : Int)), (.int .u8 (x8.toNat : Int)), (.int .u8 (x9.toNat : Int)), (.int .u8 (x10.toNat : Int)), (.int .u8 (x11.toNat : Int)), .int .u16 k, .slice A n c] 37)).alloc (.cells #[(.int .u8 (x0.toNat : Int)), (.int .u8 (x1.toNat : Int)), (.int .u8 (x2.toNat : Int)), (.int .u8 (x3.toNat : Int)), (.int .u8 (x4.toNat : Int)), (.int .u8 (x5.toNat : Int)), (.int .u8 (x6.toNat : Int)), (.int .u8 (x7.toNat : Int)), (.int .u8 (x8.toNat : Int)), (.int .u8 (x9.toNat : Int)), (.int .u8 (x10.toNat : Int)), (.int .u8 (x11.toNat : Int)), .int .u16 k, .slice B n d] 42)) (w.heap.size + 1) 42 #[(.int .u8 (x0.toNat : Int)), (.int .u8 (x1.toNat : Int)), (.int .u8 (x2.toNat : Int)), (.int .u8 (x3.toNat : Int)), (.int .u8 (x4.toNat : Int)), (.int .u8 (x5.toNat : Int)), (.int .u8 (x6.toNat : Int)), (.int .u8 (x7.toNat : Int)), (.int .u8 (x8.toNat : Int)), (.int .u8 (x9.toNat : Int)), (.int .u8 (x10.toNat : Int)), (.int .u8 (x11.toNat : Int)), .int .u16 k, .slice B n d] := by
    have := blk_new (w.alloc (.cells #[(.int .u8 (x0.toNat : Int)), (.int .u8 (x1.toNat : Int)), (.int .u8 (x2.toNat : Int)), (.int .u8 (x3.toNat : Int)), (.int .u8 (x4.toNat : Int)), (.int .u8 (x5.toNat : Int)), (.int .u8 (x6.toNat : Int)), (.int .u8 (x7.toNat : Int)), (.int .u8 (x8.toNat : Int)), (.int .u8 (x9.toNat : Int)), (.int .u8 (x10.toNat : Int)), (.int .u8 (x11.toNat : Int)), .int .u16 k, .slice A n c] 37)) 42 #[(.int .u8 (x0.toNat : Int)), (.int .u8 (x1.toNat : Int)), (.int .u8 (x2.toNat : Int)), (.int .u8 (x3.toNat : Int)), (.int .u8 (x4.toNat : Int)), (.int .u8 (x5.toNat : Int)), (.int .u8 (x6.toNat : Int)), (.int .u8 (x7.toNat : Int)), (.int .u8 (x8.toNat : Int)), (.int .u8 (x9.toNat : Int)), (.int .u8 (x10.toNat : Int)), (.int .u8 (x11.toNat : Int)), .int .u16 k, .slice B n d]
    simpa using this
  have HX := Lib.hid (hx.below hb)
  have HY := Lib.hid (hy.below hb)
  have HN := Lib.hid hn
  have HB := Lib.hid hb
  have H0 := Lib.hid h0
  have H1 := Lib.hid h1
  clear hx hy hn hb h0 h1
  go_enter Try.func26, Try.ntmps26
  go_upto_region 1 with fail
  generalize (w.alloc (.cells #[(.int .u8 (x0.toNat : Int)), (.int .u8 (x1.toNat : Int)), (.int .u8 (x2.toNat : Int)), (.int .u8 (x3.toNat : Int)), (.int .u8 (x4.toNat : Int)), (.int .u8 (x5.toNat : Int)), (.int .u8 (x6.toNat : Int)), (.int .u8 (x7.toNat : Int)), (.int .u8 (x8.toNat : Int)), (.int .u8 (x9.toNat : Int)), (.int .u8 (x10.toNat : Int)), (.int .u8 (x11.toNat : Int)), .int .u16 k, .slice A n c] 37)).alloc (.cells #[(.int .u8 (x0.toNat : Int)), (.int .u8 (x1.toNat : Int)), (.int .u8 (x2.toNat : Int)), (.int .u8 (x3.toNat : Int)), (.int .u8 (x4.toNat : Int)), (.int .u8 (x5.toNat : Int)), (.int .u8 (x6.toNat : Int)), (.int .u8 (x7.toNat : Int)), (.int .u8 (x8.toNat : Int)), (.int .u8 (x9.toNat : Int)), (.int .u8 (x10.toNat : Int)), (.int .u8 (x11.toNat : Int)), .int .u16 k, .slice B n d] 42) = w1 at *
  have q0 : (Op.equalIn 10000 23 (.agg #[(.int .u8 (x0.toNat : Int)), (.int .u8 (x1.toNat : Int)), (.int .u8 (x2.toNat : Int)), (.int .u8 (x3.toNat : Int)), (.int .u8 (x4.toNat : Int)), (.int .u8 (x5.toNat : Int))]) (.agg #[(.int .u8 (x0.toNat : Int)), (.int .u8 (x1.toNat : Int)), (.int .u8 (x2.toNat : Int)), (.int .u8 (x3.toNat : Int)), (.int .u8 (x4.toNat : Int)), (.int .u8 (x5.toNat : Int))])).run Try.prog w1 = .ok true w1 := by
    have := mac_eq [x0, x1, x2, x3, x4, x5] [x0, x1, x2, x3, x4, x5] rfl rfl w1
    rw [beq_self_eq_true] at this
    exact this
  have q1 : (Op.equalIn 10000 23 (.agg #[(.int .u8 (x6.toNat : Int)), (.int .u8 (x7.toNat : Int)), (.int .u8 (x8.toNat : Int)), (.int .u8 (x9.toNat : Int)), (.int .u8 (x10.toNat : Int)), (.int .u8 (x11.toNat : Int))]) (.agg #[(.int .u8 (x6.toNat : Int)), (.int .u8 (x7.toNat : Int)), (.int .u8 (x8.toNat : Int)), (.int .u8 (x9.toNat : Int)), (.int .u8 (x10.toNat : Int)), (.int .u8 (x11.toNat : Int))])).run Try.prog w1 = .ok true w1 := by
    have := mac_eq [x6, x7, x8, x9, x10, x11] [x6, x7, x8, x9, x10, x11] rfl rfl w1
    rw [beq_self_eq_true] at this
    exact this
  obtain ⟨m0, m1, m2, m3, m4, m5, m6, m7, m8, m9, m10, m11, m12, m13⟩ := H0.out.cells14
  obtain ⟨r0, r1, r2, r3, r4, r5, r6, r7, r8, r9, r10, r11, r12, r13⟩ := H1.out.cells14
  go_wp2_with fail
  refine (same_n A xs n c B xs n d _ HN.out HN.out HX.out.1 HY.out.1).mono ?_
  rintro e w7 ⟨rfl, rfl⟩
  rw [decide_eq_true rfl]
  go_wp2_with fail
  go_ret
  exact ⟨by simp, HB.out⟩
end Go.Proofs.Ythchjfkbaocoiaa
