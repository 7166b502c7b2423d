/-
  The walks of the law package's plain, same, and of has, Span, Flags at the example.
-/
import Derived.Test.YtpnfdnnfhmecjaaSegC
import Derived.Test.YtpnfdnnfhmecjaaSame
namespace Go.Proofs.Ytpnfdnnfhmecjaa
open Go.RowKit
set_option linter.unusedVariables false

theorem same_n (A : Option Addr) (xs : List UInt8) (n c : Nat) (B : Option Addr) (ys : List UInt8) (m d : Nat) (w : World) (hn : xs.length = n) (hm : ys.length = m) (hx : Bs w A xs) (hy : Bs w B ys) :
    Calls Try.prog 12 #[.slice A n c, .slice B m d] w fun e w' => e = .returned (.bool (decide (xs = ys))) ∧ w = w' := by
  subst hn hm; exact same_any A xs c B ys d w hx hy
set_option maxHeartbeats 2000000 in
set_option maxRecDepth 100000 in
theorem plain_any (fr to_ sq ak fl wi ur gr : Int) (D : Option Addr) (n c : Nat) (w : World) :
    Calls Try.prog 11 #[.agg (segV fr to_ sq ak fl wi ur gr D n c)] w fun e w' => e = .returned (.agg (segV fr to_ sq ak fl wi ur gr D n c)) ∧ Below w.heap.size w w' := by
  have hb : Below w.heap.size w ((w.alloc (.cells (segV fr to_ sq ak fl wi ur gr D n c) 26)).alloc (.cells (segV 0 0 0 0 0 0 0 0 none 0 0) 32)) := ((Below.refl _ _).alloc (Nat.le_refl _) _).alloc (by simp) _
  have h0 : Blk ((w.alloc (.cells (segV fr to_ sq ak fl wi ur gr D n c) 26)).alloc (.cells (segV 0 0 0 0 0 0 0 0 none 0 0) 32)) w.heap.size 26 (segV fr to_ sq ak fl wi ur gr D n c) := blk_old (blk_new _ _ _) _
  have h1 : Blk ((w.alloc (.cells (segV fr to_ sq ak fl wi ur gr D n c) 26)).alloc (.cells (segV 0 0 0 0 0 0 0 0 none 0 0) 32)) (w.heap.size + 1) 32 (segV 0 0 0 0 0 0 0 0 none 0 0) := by
    have := blk_new (w.alloc (.cells (segV fr to_ sq ak fl wi ur gr D n c) 26)) 32 (segV 0 0 0 0 0 0 0 0 none 0 0)
    simpa using this
  have HB := Lib.hid hb
  have H0 := Lib.hid h0
  have H1 := Lib.hid h1
  clear hb h0 h1
  go_enter Try.func11, Try.ntmps11
  go_upto_region 1 with fail
  generalize (w.alloc (.cells (segV fr to_ sq ak fl wi ur gr D n c) 26)).alloc (.cells (segV 0 0 0 0 0 0 0 0 none 0 0) 32) = w1 at *
  obtain ⟨x0, x1, x2, x3, x4, x5, x6, x7, x8⟩ := H0.out.cells9
  obtain ⟨y0, y1, y2, y3, y4, y5, y6, y7, y8⟩ := H1.out.cells9
  obtain ⟨z0, z1, z2, z3, z4, z5, z6, z7, z8⟩ := H1.out.frees9
  have st := H1.out.store9 (.int .i64 fr) (.int .i64 to_) (.int .u32 sq) (.int .u32 ak) (.int .i64 fl) (.int .i64 wi) (.int .i64 ur) (.int .i64 gr) (.slice D n c)
  have HF := Lib.hid (below_grown HB.out st.2 (Nat.le_refl _) (by omega))
  have HK := Lib.hid st.1
  clear st
  go_wp2_with fail
  generalize World.setCell _ _ (Value.slice D n c) = w5 at HK HF ⊢
  obtain ⟨d0, d1, d2, d3, d4, d5, d6, d7, d8⟩ := HK.out.cells9
  exact bodyPost_ret (v := .agg (segV fr to_ sq ak fl wi ur gr D n c)) (by simp [results, Try.results11, go_sem, d0, d1, d2, d3, d4, d5, d6, d7, d8]) rfl ⟨rfl, HF.out⟩
set_option maxHeartbeats 2000000 in
set_option maxRecDepth 100000 in
theorem sames_any (fr to_ sq ak fl wi ur gr : Int) (A B : Option Addr) (xs : List UInt8) (n c d : Nat) (w : World) (hn : xs.length = n) (hx : Sl w A c xs) (hy : Sl w B d xs) :
    Calls Try.prog 17 #[.agg (segV fr to_ sq ak fl wi ur gr A n c), .agg (segV fr to_ sq ak fl wi ur gr B n d)] w fun e w' => e = .returned (.bool true) ∧ Below w.heap.size w w' := by
  have hb : Below w.heap.size w ((w.alloc (.cells (segV fr to_ sq ak fl wi ur gr A n c) 32)).alloc (.cells (segV fr to_ sq ak fl wi ur gr B n d) 32)) := ((Below.refl _ _).alloc (Nat.le_refl _) _).alloc (by simp) _
  have h0 : Blk ((w.alloc (.cells (segV fr to_ sq ak fl wi ur gr A n c) 32)).alloc (.cells (segV fr to_ sq ak fl wi ur gr B n d) 32)) w.heap.size 32 (segV fr to_ sq ak fl wi ur gr A n c) := blk_old (blk_new _ _ _) _
  have h1 : Blk ((w.alloc (.cells (segV fr to_ sq ak fl wi ur gr A n c) 32)).alloc (.cells (segV fr to_ sq ak fl wi ur gr B n d) 32)) (w.heap.size + 1) 32 (segV fr to_ sq ak fl wi ur gr B n d) := by
    have := blk_new (w.alloc (.cells (segV fr to_ sq ak fl wi ur gr A n c) 32)) 32 (segV fr to_ sq ak fl wi ur gr B n d)
    simpa using this
  have HX := Lib.hid (hx.below hb)
  have HY := Lib.hid (hy.below hb)
  have HN := Lib.hid hn
  have HB := Lib.hid hb
  have H0 := Lib.hid h0
  have H1 := Lib.hid h1
  clear hx hy hn hb h0 h1
  go_enter Try.func17, Try.ntmps17
  go_upto_region 1 with fail
  generalize (w.alloc (.cells (segV fr to_ sq ak fl wi ur gr A n c) 32)).alloc (.cells (segV fr to_ sq ak fl wi ur gr B n d) 32) = w1 at *
  obtain ⟨x0, x1, x2, x3, x4, x5, x6, x7, x8⟩ := H0.out.cells9
  obtain ⟨y0, y1, y2, y3, y4, y5, y6, y7, y8⟩ := H1.out.cells9
  go_wp2_with fail
  refine (same_n A xs n c B xs n d _ HN.out HN.out HX.out.1 HY.out.1).mono ?_
  rintro e w7 ⟨rfl, rfl⟩
  rw [decide_eq_true rfl]
  go_wp2_with fail
  go_ret
  exact ⟨by simp, HB.out⟩
end Go.Proofs.Ytpnfdnnfhmecjaa
