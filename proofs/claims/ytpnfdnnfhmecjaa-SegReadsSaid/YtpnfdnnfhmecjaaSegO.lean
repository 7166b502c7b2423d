/-
  The walk of Reset.
-/
import Derived.Test.YtpnfdnnfhmecjaaSegN
import Derived.Deep.RegionHeld3
namespace Go.Proofs.Ytpnfdnnfhmecjaa
open Go.RowKit
set_option linter.unusedVariables false

/-- What Reset answers. -/
def ResetR (fr to_ : Int) (w : World) (e : Ending) (w' : World) : Prop :=
  Below w.heap.size w w' ∧ (e = .returned (.tuple #[.agg (segV 0 0 0 0 0 0 0 0 none 0 0), .bool false]) ∨ ∃ q k fl : Int, e = .returned (.tuple #[.agg (segV to_ fr q k fl 0 0 0 none 0 0), .bool true]) ∧ (fl = 4 ∨ fl = 20))
/-- The boxes of Reset. -/
structure RX (w : World) (C Z K : Array Value) (wr : World) : Prop where
  b0 : Blk wr w.heap.size 26 C
  b1 : Blk wr (w.heap.size + 1) 26 Z
  b2 : Blk wr (w.heap.size + 1 + 1) 26 K
  bel : Below w.heap.size w wr
section
variable {w wr w' : World} {C Z K : Array Value}
theorem RX.start (w : World) (C Z K : Array Value) : RX w C Z K (((w.alloc (.cells C 26)).alloc (.cells Z 26)).alloc (.cells K 26)) :=
  ⟨blk_old (blk_old (blk_new _ _ _) _) _, blk_old (by have := blk_new (w.alloc (.cells C 26)) 26 Z; simpa using this) _, by have := blk_new ((w.alloc (.cells C 26)).alloc (.cells Z 26)) 26 K; simpa using this, (((Below.refl _ _).alloc (Nat.le_refl _) _).alloc (by simp) _).alloc (by simp; omega) _⟩
theorem RX.below (h : RX w C Z K wr) (hb : Below wr.heap.size wr w') : RX w C Z K w' :=
  ⟨h.b0.below hb h.b0.lt, h.b1.below hb h.b1.lt, h.b2.below hb h.b2.lt, h.bel.trans (hb.mono h.bel.size)⟩
theorem RX.set2 (h : RX w C Z K wr) (i : Nat) (u : Value) : RX w C Z (K.setIfInBounds i u) (wr.setCell ⟨w.heap.size + 1 + 1, i, none⟩ u) :=
  ⟨h.b0.far (by show w.heap.size ≠ w.heap.size + 1 + 1; omega) u, h.b1.far (by show w.heap.size + 1 ≠ w.heap.size + 1 + 1; omega) u, h.b2.set i u, h.bel.setCell (by show w.heap.size ≤ w.heap.size + 1 + 1; omega) u⟩
end

set_option maxHeartbeats 4000000 in
set_option maxRecDepth 100000 in
theorem reset_some (fr to_ sq ak fl wi ur gr : Int) (D : Option Addr) (n c : Nat) (w : World) :
    Calls Try.prog 19 #[.agg (segV fr to_ sq ak fl wi ur gr D n c)] w (ResetR fr to_ w) := by
  have HR := Lib.hid (RX.start w (segV fr to_ sq ak fl wi ur gr D n c) (segV 0 0 0 0 0 0 0 0 none 0 0) (segV to_ fr 0 0 4 0 0 0 none 0 0))
  go_enter Try.func19, Try.ntmps19
  go_upto_region 4 with fail
  generalize ((w.alloc (.cells (segV fr to_ sq ak fl wi ur gr D n c) 26)).alloc (.cells (segV 0 0 0 0 0 0 0 0 none 0 0) 26)).alloc (.cells (segV to_ fr 0 0 4 0 0 0 none 0 0) 26) = v0 at *
  obtain ⟨x0, x1, x2, x3, x4, x5, x6, x7, x8⟩ := HR.out.b0.cells9
  go_wp2_with fail
  refine (has_some fr to_ sq ak fl wi ur gr D n c 2 _ (by omega) (by omega)).mono ?_
  rintro e v1 ⟨⟨b, rfl⟩, hb⟩
  replace HR := Lib.hid (HR.out.below hb)
  clear hb x0 x1 x2 x3 x4 x5 x6 x7 x8
  cases b
  · obtain ⟨x0, x1, x2, x3, x4, x5, x6, x7, x8⟩ := HR.out.b0.cells9
    go_wp2_with fail
    refine (has_some fr to_ sq ak fl wi ur gr D n c 4 _ (by omega) (by omega)).mono ?_
    rintro e v2 ⟨⟨b, rfl⟩, hb⟩
    replace HR := Lib.hid (HR.out.below hb)
    clear hb x0 x1 x2 x3 x4 x5 x6 x7 x8
    obtain ⟨x0, x1, x2, x3, x4, x5, x6, x7, x8⟩ := HR.out.b0.cells9
    obtain ⟨y0, y1, y2, y3, y4, y5, y6, y7, y8⟩ := HR.out.b1.cells9
    obtain ⟨z0, z1, z2, z3, z4, z5, z6, z7, z8⟩ := HR.out.b2.cells9
    obtain ⟨r0, r1, r2, r3, r4, r5, r6, r7, r8⟩ := HR.out.b1.frees9
    obtain ⟨s0, s1, s2, s3, s4, s5, s6, s7, s8⟩ := HR.out.b2.frees9
    cases b
    · go_upto_region 3 with fail
      have hr2 : RX w (segV fr to_ sq ak fl wi ur gr D n c) (segV 0 0 0 0 0 0 0 0 none 0 0) (segV to_ fr 0 0 20 0 0 0 none 0 0) (v2.setCell ⟨w.heap.size + 1 + 1, 4, none⟩ (.int .i64 20)) := HR.out.set2 4 (.int .i64 20)
      replace HR := Lib.hid hr2
      clear hr2 x0 x1 x2 x3 x4 x5 x6 x7 x8 y0 y1 y2 y3 y4 y5 y6 y7 y8 z0 z1 z2 z3 z4 z5 z6 z7 z8 r0 r1 r2 r3 r4 r5 r6 r7 r8 s0 s1 s2 s3 s4 s5 s6 s7 s8
      rw [show bits .or .i64 4 16 = 20 from by decide]
      generalize v2.setCell ⟨w.heap.size + 1 + 1, 4, none⟩ (.int .i64 20) = v3 at *
      obtain ⟨x0, x1, x2, x3, x4, x5, x6, x7, x8⟩ := HR.out.b0.cells9
      have s3 := HR.out.b2.free 3
      have z3 : v3.cell? ⟨w.heap.size + 1 + 1, 3, none⟩ = some (.int .u32 0) := HR.out.b2.cell 3
      go_region_held3 (fun w' => w'.cell? ⟨w.heap.size, 0, none⟩ = some (.int .i64 fr) ∧ w'.cell? ⟨w.heap.size, 1, none⟩ = some (.int .i64 to_) ∧ w'.cell? ⟨w.heap.size, 2, none⟩ = some (.int .u32 sq) ∧ w'.cell? ⟨w.heap.size, 3, none⟩ = some (.int .u32 ak) ∧ w'.cell? ⟨w.heap.size, 4, none⟩ = some (.int .i64 fl) ∧ w'.cell? ⟨w.heap.size, 5, none⟩ = some (.int .i64 wi) ∧ w'.cell? ⟨w.heap.size, 6, none⟩ = some (.int .i64 ur) ∧ w'.cell? ⟨w.heap.size, 7, none⟩ = some (.int .i64 gr) ∧ w'.cell? ⟨w.heap.size, 8, none⟩ = some (.slice D n c))
        (first | (with_reducible assumption) | (refine ⟨?_, ?_, ?_, ?_, ?_, ?_, ?_, ?_, ?_⟩ <;> (with_reducible assumption)) | (exact HR4.out.b0.cells9) | (exact (show Blk _ _ 26 (segV fr to_ sq ak fl wi ur gr D n c) from (HR4.out.set2 3 _).b0).cells9) | (exact HR.out.b0.cells9))
        (first
          | (go_at_call 32
             refine (span_some fr to_ sq ak fl wi ur gr D n c _).mono ?_
             rintro e v4 ⟨⟨v, rfl⟩, hb⟩
             have HR4 := Lib.hid ((HR.out.below (Drawn.below ⟨1, rfl⟩ _)).below hb)
             have s3' := HR4.out.b2.free 3
             have z3' : v4.cell? ⟨w.heap.size + 1 + 1, 3, none⟩ = some (.int .u32 0) := HR4.out.b2.cell 3
             clear hb)
          | (go_at_call 40
             refine (sadd_some _ _ _).mono ?_
             rintro e v5 ⟨⟨u, rfl, u0, u1⟩, rfl⟩))
      have hr5 : RX w (segV fr to_ sq ak fl wi ur gr D n c) (segV 0 0 0 0 0 0 0 0 none 0 0) (segV to_ fr 0 u 20 0 0 0 none 0 0) (v4.setCell ⟨w.heap.size + 1 + 1, 3, none⟩ (.int .u32 u)) := HR4.out.set2 3 (.int .u32 u)
      replace HR := Lib.hid hr5
      clear hr5 HR4
      generalize v4.setCell ⟨w.heap.size + 1 + 1, 3, none⟩ (.int .u32 u) = v6 at *
      go_upto_region 8 with fail
      obtain ⟨y0, y1, y2, y3, y4, y5, y6, y7, y8⟩ := HR.out.b1.cells9
      obtain ⟨r0, r1, r2, r3, r4, r5, r6, r7, r8⟩ := HR.out.b1.frees9
      obtain ⟨z0, z1, z2, z3, z4, z5, z6, z7, z8⟩ := HR.out.b2.cells9
      have st := HR.out.b1.store9 (.int .i64 to_) (.int .i64 fr) (.int .u32 0) (.int .u32 u) (.int .i64 20) (.int .i64 0) (.int .i64 0) (.int .i64 0) (.slice none 0 0)
      have hx := below_grown HR.out.bel st.2 (Nat.le_refl _) (by omega)
      have HF := Lib.hid hx
      have HK := Lib.hid st.1
      clear st hx HR
      go_wp2_with fail
      generalize World.setCell _ _ (Value.slice none 0 0) = w5 at HK HF ⊢
      obtain ⟨d0, d1, d2, d3, d4, d5, d6, d7, d8⟩ := HK.out.cells9
      exact bodyPost_ret (v := .tuple #[.agg (segV to_ fr 0 u 20 0 0 0 none 0 0), .bool true]) (by simp [results, Try.results19, go_sem, d0, d1, d2, d3, d4, d5, d6, d7, d8]) rfl ⟨HF.out, .inr ⟨_, _, _, rfl, by omega⟩⟩
    · go_upto_region 8 with fail
      have hr2 : RX w (segV fr to_ sq ak fl wi ur gr D n c) (segV 0 0 0 0 0 0 0 0 none 0 0) (segV to_ fr ak 0 4 0 0 0 none 0 0) (v2.setCell ⟨w.heap.size + 1 + 1, 2, none⟩ (.int .u32 ak)) := HR.out.set2 2 (.int .u32 ak)
      replace HR := Lib.hid hr2
      clear hr2 x0 x1 x2 x3 x4 x5 x6 x7 x8 y0 y1 y2 y3 y4 y5 y6 y7 y8 z0 z1 z2 z3 z4 z5 z6 z7 z8 r0 r1 r2 r3 r4 r5 r6 r7 r8 s0 s1 s2 s3 s4 s5 s6 s7 s8
      generalize v2.setCell ⟨w.heap.size + 1 + 1, 2, none⟩ (.int .u32 ak) = v3 at *
      obtain ⟨y0, y1, y2, y3, y4, y5, y6, y7, y8⟩ := HR.out.b1.cells9
      obtain ⟨r0, r1, r2, r3, r4, r5, r6, r7, r8⟩ := HR.out.b1.frees9
      obtain ⟨z0, z1, z2, z3, z4, z5, z6, z7, z8⟩ := HR.out.b2.cells9
      have st := HR.out.b1.store9 (.int .i64 to_) (.int .i64 fr) (.int .u32 ak) (.int .u32 0) (.int .i64 4) (.int .i64 0) (.int .i64 0) (.int .i64 0) (.slice none 0 0)
      have hx := below_grown HR.out.bel st.2 (Nat.le_refl _) (by omega)
      have HF := Lib.hid hx
      have HK := Lib.hid st.1
      clear st hx HR
      go_wp2_with fail
      generalize World.setCell _ _ (Value.slice none 0 0) = w5 at HK HF ⊢
      obtain ⟨d0, d1, d2, d3, d4, d5, d6, d7, d8⟩ := HK.out.cells9
      exact bodyPost_ret (v := .tuple #[.agg (segV to_ fr ak 0 4 0 0 0 none 0 0), .bool true]) (by simp [results, Try.results19, go_sem, d0, d1, d2, d3, d4, d5, d6, d7, d8]) rfl ⟨HF.out, .inr ⟨_, _, _, rfl, by omega⟩⟩
  · obtain ⟨y0, y1, y2, y3, y4, y5, y6, y7, y8⟩ := HR.out.b1.cells9
    obtain ⟨r0, r1, r2, r3, r4, r5, r6, r7, r8⟩ := HR.out.b1.frees9
    have HB := Lib.hid HR.out.bel
    have st := HR.out.b1.store9 (.int .i64 0) (.int .i64 0) (.int .u32 0) (.int .u32 0) (.int .i64 0) (.int .i64 0) (.int .i64 0) (.int .i64 0) (.slice none 0 0)
    have hx := below_grown HR.out.bel st.2 (Nat.le_refl _) (by omega)
    have HF := Lib.hid hx
    have HK := Lib.hid st.1
    clear st hx HR HB
    go_wp2_with fail
    generalize World.setCell _ _ (Value.slice none 0 0) = w5 at HK HF ⊢
    obtain ⟨d0, d1, d2, d3, d4, d5, d6, d7, d8⟩ := HK.out.cells9
    exact bodyPost_ret (v := .tuple #[.agg (segV 0 0 0 0 0 0 0 0 none 0 0), .bool false]) (by simp [results, Try.results19, go_sem, d0, d1, d2, d3, d4, d5, d6, d7, d8]) rfl ⟨HF.out, .inl rfl⟩
set_option maxHeartbeats 4000000 in
set_option maxRecDepth 100000 in
theorem reset_rst (fl : Int) (h : (fl, (2 : Int), true) ∈ [((2 : Int), (0 : Int), false), (2, 1, true), (2, 2, false), (2, 3, false), (2, 4, false), (2, 5, false), (4, 2, true), (20, 2, true)]) (fr to_ sq ak wi ur gr : Int) (D : Option Addr) (n c : Nat) (w : World) :
    Calls Try.prog 19 #[.agg (segV fr to_ sq ak fl wi ur gr D n c)] w fun e w' => e = .returned (.tuple #[.agg (segV 0 0 0 0 0 0 0 0 none 0 0), .bool false]) ∧ Below w.heap.size w w' := by
  have HR := Lib.hid (RX.start w (segV fr to_ sq ak fl wi ur gr D n c) (segV 0 0 0 0 0 0 0 0 none 0 0) (segV to_ fr 0 0 4 0 0 0 none 0 0))
  have HH := Lib.hid h
  clear h
  go_enter Try.func19, Try.ntmps19
  go_upto_region 4 with fail
  generalize ((w.alloc (.cells (segV fr to_ sq ak fl wi ur gr D n c) 26)).alloc (.cells (segV 0 0 0 0 0 0 0 0 none 0 0) 26)).alloc (.cells (segV to_ fr 0 0 4 0 0 0 none 0 0) 26) = v0 at *
  obtain ⟨x0, x1, x2, x3, x4, x5, x6, x7, x8⟩ := HR.out.b0.cells9
  go_wp2_with fail
  refine (has_at fl 2 true HH.out fr to_ sq ak wi ur gr D n c _).mono ?_
  rintro e v1 ⟨rfl, hb⟩
  replace HR := Lib.hid (HR.out.below hb)
  clear hb x0 x1 x2 x3 x4 x5 x6 x7 x8
  obtain ⟨y0, y1, y2, y3, y4, y5, y6, y7, y8⟩ := HR.out.b1.cells9
  obtain ⟨r0, r1, r2, r3, r4, r5, r6, r7, r8⟩ := HR.out.b1.frees9
  have HB := Lib.hid HR.out.bel
  have st := HR.out.b1.store9 (.int .i64 0) (.int .i64 0) (.int .u32 0) (.int .u32 0) (.int .i64 0) (.int .i64 0) (.int .i64 0) (.int .i64 0) (.slice none 0 0)
  have hx := below_grown HR.out.bel st.2 (Nat.le_refl _) (by omega)
  have HF := Lib.hid hx
  have HK := Lib.hid st.1
  clear st hx HR HB
  go_wp2_with fail
  generalize World.setCell _ _ (Value.slice none 0 0) = w5 at HK HF ⊢
  obtain ⟨d0, d1, d2, d3, d4, d5, d6, d7, d8⟩ := HK.out.cells9
  exact bodyPost_ret (v := .tuple #[.agg (segV 0 0 0 0 0 0 0 0 none 0 0), .bool false]) (by simp [results, Try.results19, go_sem, d0, d1, d2, d3, d4, d5, d6, d7, d8]) rfl ⟨rfl, HF.out⟩
end Go.Proofs.Ytpnfdnnfhmecjaa
