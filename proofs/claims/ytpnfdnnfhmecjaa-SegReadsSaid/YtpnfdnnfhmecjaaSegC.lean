/-
  The walk of seg.Build.
-/
import Derived.Test.YtpnfdnnfhmecjaaSegB
import Derived.Test.YtpnfdnnfhmecjaaAppN
import Derived.Laws.MakeOwn
import Derived.Deep.DeepCutAuto
namespace Go.Proofs.Ytpnfdnnfhmecjaa
open Go.RowKit
set_option linter.unusedVariables false

/-- What Build answers, both of them. -/
def SBuilt (f t : Int) (s : SG) (data : List UInt8) (w : World) (e : Ending) (w' : World) : Prop :=
  ∃ X x, e = .returned (.tuple #[.slice X (segR f t s data).length x, .int .i64 (segE s data.length)]) ∧ Own w' w.heap.size X x (segR f t s data) ∧ Below w.heap.size w w'

theorem segbuild_arg (f t fr to_ sq ak fl wi ur gr : Int) (D : Option Addr) (data : List UInt8) (n c : Nat) (w : World) (hn : data.length = n) (h : ¬ fitsP ⟨fr, to_, sq, ak, fl, wi, ur, gr⟩) :
    Calls Try.prog 9 #[.int .u32 f, .int .u32 t, .agg (segV fr to_ sq ak fl wi ur gr D n c)] w (SBuilt f t ⟨fr, to_, sq, ak, fl, wi, ur, gr⟩ data w) := by
  have hb : Below w.heap.size w (w.alloc (.cells (segV fr to_ sq ak fl wi ur gr D n c) 26)) := (Below.refl _ _).alloc (Nat.le_refl _) _
  have e1 : segE ⟨fr, to_, sq, ak, fl, wi, ur, gr⟩ data.length = 2 := by rw [segE, if_neg h]
  have e2 : segR f t ⟨fr, to_, sq, ak, fl, wi, ur, gr⟩ data = [] := by rw [segR, if_neg (fun k => h k.1)]
  have H := Lib.hid h
  have E1 := Lib.hid e1
  have E2 := Lib.hid e2
  have HB := Lib.hid hb
  clear h e1 e2 hb hn
  go_enter Try.func9, Try.ntmps9
  go_wp2_with fail
  refine (fits_any fr to_ sq ak fl wi ur gr D n c _).mono ?_
  rw [decide_eq_false H.out]
  rintro e w' ⟨rfl, hb2⟩
  have FIN : Hid (SBuilt f t ⟨fr, to_, sq, ak, fl, wi, ur, gr⟩ data w (.returned (.tuple #[.slice none 0 0, .int .i64 2])) w') := ⟨none, 0, by rw [E1.out, E2.out]; rfl, by rw [E2.out]; exact Own.nil _ _, HB.out.trans (hb2.mono HB.out.size)⟩
  clear hb2
  go_wp2_with fail
  go_ret2
  exact FIN.out
theorem segbuild_long (f t fr to_ sq ak fl wi ur gr : Int) (D : Option Addr) (data : List UInt8) (n c : Nat) (w : World) (hn : data.length = n) (h : fitsP ⟨fr, to_, sq, ak, fl, wi, ur, gr⟩) (hl : (65495 : Int) < n) :
    Calls Try.prog 9 #[.int .u32 f, .int .u32 t, .agg (segV fr to_ sq ak fl wi ur gr D n c)] w (SBuilt f t ⟨fr, to_, sq, ak, fl, wi, ur, gr⟩ data w) := by
  have hb : Below w.heap.size w (w.alloc (.cells (segV fr to_ sq ak fl wi ur gr D n c) 26)) := (Below.refl _ _).alloc (Nat.le_refl _) _
  have hbx := blk_new w 26 (segV fr to_ sq ak fl wi ur gr D n c)
  have e1 : segE ⟨fr, to_, sq, ak, fl, wi, ur, gr⟩ data.length = 3 := by rw [segE, if_pos h, if_neg (by omega)]
  have e2 : segR f t ⟨fr, to_, sq, ak, fl, wi, ur, gr⟩ data = [] := by rw [segR, if_neg (fun k => absurd k.2 (by omega))]
  have H := Lib.hid h
  have E1 := Lib.hid e1
  have E2 := Lib.hid e2
  have HB := Lib.hid hb
  have HX := Lib.hid hbx
  clear h e1 e2 hb hn hbx
  go_enter Try.func9, Try.ntmps9
  go_wp2_with fail
  generalize w.alloc (.cells (segV fr to_ sq ak fl wi ur gr D n c) 26) = w1 at *
  refine (fits_any fr to_ sq ak fl wi ur gr D n c _).mono ?_
  rw [decide_eq_true H.out]
  rintro e w' ⟨rfl, hb2⟩
  have FIN : Hid (SBuilt f t ⟨fr, to_, sq, ak, fl, wi, ur, gr⟩ data w (.returned (.tuple #[.slice none 0 0, .int .i64 3])) w') := ⟨none, 0, by rw [E1.out, E2.out]; rfl, by rw [E2.out]; exact Own.nil _ _, HB.out.trans (hb2.mono HB.out.size)⟩
  have c8 : w'.cell? ⟨w.heap.size, 8, none⟩ = some (.slice D n c) := (HX.out.below hb2 HX.out.lt).cell 8
  clear hb2
  go_wp2_with fail
  go_ret2
  exact FIN.out

/-- The head is being laid. -/
structure SB (w1 : World) (GB G L : Nat) (P : Array Value) (hdr : List UInt8) (w' : World) : Prop where
  row : Row 5 w' w1.heap.size (some ⟨G, 0, none⟩) L hdr
  box : Blk w' GB 26 P
  bel : Below w1.heap.size w1 w'
section
variable {w1 wa wb : World} {GB G L : Nat} {P : Array Value} {hdr hdr' : List UInt8}
theorem SB.wrote (h : SB w1 GB G L P hdr wa) (hGB : GB < w1.heap.size) (hr : Row 5 wb w1.heap.size (some ⟨G, 0, none⟩) L hdr') (hg : wa.grownBy wb (some G)) : SB w1 GB G L P hdr' wb :=
  ⟨hr, h.box.grown hg (by have := h.row.lt; omega), below_grown h.bel hg (Nat.le_refl _) h.row.lt.1⟩
theorem SB.app {g2 c2 : Nat} {xs : List UInt8} (h : SB w1 GB G L P hdr wa) (hGB : GB < w1.heap.size) (ho : Own wb w1.heap.size (some ⟨g2, 0, none⟩) c2 xs) (hg : wa.grownBy wb (Value.slice (some ⟨G, 0, none⟩) hdr.length L).ownBlock) : SB w1 GB g2 c2 P xs wb :=
  have hg' : wa.grownBy wb (some G) := hg
  ⟨ho.row, h.box.grown hg' (by have := h.row.lt; omega), below_grown h.bel hg' (Nat.le_refl _) h.row.lt.1⟩
theorem SB.drawn (h : SB w1 GB G L P hdr wa) (hd : Drawn wa wb) : SB w1 GB G L P hdr wb := ⟨h.row.drawn hd, h.box.below (hd.below wa.heap.size) h.box.lt, h.bel.trans (hd.below _)⟩
theorem SB.drew (h : SB w1 GB G L P hdr wa) : SB w1 GB G L P hdr wa.drew := h.drawn ⟨1, rfl⟩
theorem SB.below (h : SB w1 GB G L P hdr wa) (hb : Below wa.heap.size wa wb) : SB w1 GB G L P hdr wb := ⟨h.row.keep hb, h.box.below hb h.box.lt, h.bel.trans (hb.mono h.bel.size)⟩
end
theorem fold_n (tt : Nat) (h : tt ≤ 65535) (w : World) : Calls Try.prog 24 #[.int .u32 (tt : Int)] w fun e w' => e = .returned (.int .u16 ((65535 - tt : Nat) : Int)) ∧ w = w' :=
  (fold_any (tt : Int) (by omega) (by omega) w).mono fun _ _ h' => ⟨by rw [h'.1, Int.toNat_natCast, rnd_small h], h'.2⟩
theorem make_cap (l c : Int) (h0 : 0 ≤ l) (h1 : l ≤ c) (h2 : c ≤ 70000) (W : World) : (Instr.makeSlice 24 (.int .i64 l) (.int .i64 c)).run Try.prog W = .ok (.slice (some ⟨W.heap.size, 0, none⟩) l.toNat c.toNat) (W.alloc (.cells (madeCells #[.int .u8 0] c.toNat) 5)) := by
  obtain ⟨i0, hi, hz0, hz1, hz2⟩ := info_parts info_u8
  have := run_make (P := Try.prog) W 24 5 i0 (.int .u8 0) Try.underlying24 hi hz0 .i64 .i64 l c h0 h1 (by rw [hz2]; omega) (by omega)
  rw [hz1, Nat.mul_one] at this
  exact this
theorem made_own (w : World) (l c : Nat) (h : l ≤ c) (hc : c ≤ 70000) : Own (w.alloc (.cells (madeCells #[.int .u8 0] c) 5)) w.heap.size (some ⟨w.heap.size, 0, none⟩) c (List.replicate l 0) := by
  refine ⟨by simp, .inr ⟨w.heap.size, c, madeCells #[.int .u8 0] c, by simp, Nat.le_refl _, heap_alloc_new w _, by simp; omega, by simp [maxLen]; omega, ?_, ?_⟩⟩
  · rw [size_madeCells, Nat.mul_one]
  · rw [toList_madeCells_one, List.take_replicate, List.map_replicate, List.length_replicate]
    congr 1
    omega

set_option maxHeartbeats 8000000 in
set_option maxRecDepth 100000 in
theorem segbuild_good (f t fr to_ sq ak fl wi ur gr : Int) (D : Option Addr) (data : List UInt8) (n c : Nat) (w : World) (hn : data.length = n) (hs : Sl w D c data) (h : fitsP ⟨fr, to_, sq, ak, fl, wi, ur, gr⟩) (hl : (n : Int) ≤ 65495) (f0 : 0 ≤ f) (f1 : f < 4294967296) (t0 : 0 ≤ t) (t1 : t < 4294967296) (s0 : 0 ≤ sq) (s1 : sq < 4294967296) (k0 : 0 ≤ ak) (k1 : ak < 4294967296) :
    Calls Try.prog 9 #[.int .u32 f, .int .u32 t, .agg (segV fr to_ sq ak fl wi ur gr D n c)] w (SBuilt f t ⟨fr, to_, sq, ak, fl, wi, ur, gr⟩ data w) := by
  have hb : Below w.heap.size w (w.alloc (.cells (segV fr to_ sq ak fl wi ur gr D n c) 26)) := (Below.refl _ _).alloc (Nat.le_refl _) _
  have hbx := blk_new w 26 (segV fr to_ sq ak fl wi ur gr D n c)
  have e1 : segE ⟨fr, to_, sq, ak, fl, wi, ur, gr⟩ data.length = 0 := by rw [segE, if_pos h, if_pos (by omega)]
  have e2 : segR f t ⟨fr, to_, sq, ak, fl, wi, ur, gr⟩ data = segB f t ⟨fr, to_, sq, ak, fl, wi, ur, gr⟩ data := by rw [segR, if_pos ⟨h, by omega⟩]
  have H := Lib.hid h
  have E1 := Lib.hid e1
  have E2 := Lib.hid e2
  have HB := Lib.hid hb
  have HX := Lib.hid hbx
  have HS := Lib.hid (hs.below hb)
  have HN := Lib.hid hn
  simp only [fitsP, r16] at h
  obtain ⟨⟨a0, a1⟩, ⟨b0, b1⟩, ⟨c0, c1⟩, ⟨d0, d1⟩, ⟨g0, g1⟩, l0, l1⟩ := h
  have HLO : Hid ((optsB ⟨fr, to_, sq, ak, fl, wi, ur, gr⟩).length = if gr = 0 then 0 else 4) := opts_length ⟨fr, to_, sq, ak, fl, wi, ur, gr⟩
  obtain ⟨ob, EO⟩ : ∃ ob, Hid (optsB ⟨fr, to_, sq, ak, fl, wi, ur, gr⟩ = ob) := ⟨_, rfl⟩
  have OA := Lib.hid (fun w => options_any fr to_ sq ak fl wi ur gr D n c w g0 g1)
  rw [EO.out] at OA HLO
  obtain ⟨lo, LO⟩ : ∃ lo, Hid (ob.length = lo) := ⟨_, rfl⟩
  rw [LO.out] at OA HLO
  have hlo : lo ≤ 4 := by rw [HLO.out]; split <;> omega
  have hl2 : ¬ (65495 : Int) < n := by omega
  clear e1 e2 hb hn hbx hs
  go_enter Try.func9, Try.ntmps9
  go_wp2_with fail
  have hG0 : w.heap.size < (w.alloc (.cells (segV fr to_ sq ak fl wi ur gr D n c) 26)).heap.size := by simp
  generalize w.alloc (.cells (segV fr to_ sq ak fl wi ur gr D n c) 26) = w0 at *
  refine (fits_any fr to_ sq ak fl wi ur gr D n c _).mono ?_
  rw [decide_eq_true H.out]
  rintro e w1 ⟨rfl, hb2⟩
  have HX1 := Lib.hid (HX.out.below hb2 HX.out.lt)
  have HS1 := Lib.hid (HS.out.below hb2)
  have HB1 := Lib.hid (HB.out.trans (hb2.mono HB.out.size))
  clear hb2 HX HS HB
  obtain ⟨x0, x1, x2, x3, x4, x5, x6, x7, x8⟩ := HX1.out.cells9
  go_wp2_with fail
  refine (OA.out _).mono ?_
  rintro e w2 ⟨Z, z, rfl, hso, hb2⟩
  have HX2 := Lib.hid (HX1.out.below hb2 HX1.out.lt)
  have HS2 := Lib.hid (HS1.out.below hb2)
  have HB2 := Lib.hid (HB1.out.trans (hb2.mono HB1.out.size))
  have HSO := Lib.hid hso
  have hG1 : w.heap.size < w2.heap.size := HX2.out.lt
  clear hb2 HX1 HS1 HB1 hso OA x0 x1 x2 x3 x4 x5 x6 x7 x8 hG0
  obtain ⟨x0, x1, x2, x3, x4, x5, x6, x7, x8⟩ := HX2.out.cells9
  have hmk := make_cap 20 (20 + (lo : Int) + (n : Int)) (by omega) (by omega) (by omega) w2
  have eL : (20 + (lo : Int) + (n : Int)).toNat = 20 + lo + n := by omega
  have e20 : (20 : Int).toNat = 20 := rfl
  rw [eL, e20] at hmk
  clear eL e20
  go_upto_region 7 with fail
  have hst : SB w2 w.heap.size w2.heap.size (20 + lo + n) (segV fr to_ sq ak fl wi ur gr D n c) (List.replicate 20 0) (w2.alloc (.cells (madeCells #[.int .u8 0] (20 + lo + n)) 5)) :=
    ⟨made_own w2 20 (20 + lo + n) (by omega) (by omega), blk_old HX2.out _, (Below.refl _ _).alloc (Nat.le_refl _) _⟩
  clear hmk x0 x1 x2 x3 x4 x5 x6 x7 x8
  generalize w2.alloc (.cells (madeCells #[.int .u8 0] (20 + lo + n)) 5) = w3 at *
  have hL20 : (20 : Int) ≤ ((20 + lo + n : Nat) : Int) := by omega
  obtain ⟨L, EL⟩ : ∃ L, Hid (20 + lo + n = L) := ⟨_, rfl⟩
  rw [EL.out] at hst hL20 ⊢
  obtain ⟨G, EG⟩ : ∃ G, Hid (w2.heap.size = G) := ⟨_, rfl⟩
  obtain ⟨GB, EGB⟩ : ∃ GB, Hid (w.heap.size = GB) := ⟨_, rfl⟩
  rw [EG.out, EGB.out] at hst ⊢
  rw [EGB.out] at hG1
  have m2 : ¬ L = 2 := by omega
  have m4 : ¬ L = 4 := by omega
  have m8 : ¬ L = 8 := by omega
  have m14 : ¬ L = 14 := by omega
  have m18 : ¬ L = 18 := by omega
  obtain ⟨hd0, HE0⟩ : ∃ z : List UInt8, Hid (List.replicate 20 (0 : UInt8) = z) := ⟨_, rfl⟩
  have HL0 : Hid (hd0.length = 20) := by rw [← HE0.out]; exact List.length_replicate
  rw [HE0.out] at hst
  obtain ⟨x0, x1, x2, x3, x4, x5, x6, x7, x8⟩ := hst.box.cells9
  go_wp2_with fail
  refine (put16_any (off := 0) _ _ hst.row (by rw [HL0.out]; omega) (by omega) (by omega) (by omega)).mono ?_
  rintro e w4 ⟨rfl, hr4, hg4⟩
  have hst2 := hst.wrote hG1 hr4 hg4
  clear hr4 hg4 hst x0 x1 x2 x3 x4 x5 x6 x7 x8
  have hst := hst2
  clear hst2
  obtain ⟨hd1, HE1⟩ : ∃ y, Hid (put2 hd0 0 fr = y) := ⟨_, rfl⟩
  have HL1 : Hid (hd1.length = 20) := by rw [← HE1.out]; simp only [put2, List.length_set]; exact HL0.out
  rw [HE1.out] at hst
  go_wp2_with fail
  go_region_held3 (fun w' => w'.cell? ⟨GB, 1, none⟩ = some (.int .i64 to_))
    (first | (with_reducible assumption) | (exact hst2.box.cell 1) | (exact hst.box.cell 1))
    ((go_at_call 22
      refine (put16_any (off := 2) _ _ (hst.row.drawn ⟨1, rfl⟩) (by rw [HL1.out]; omega) (by omega) (by omega) (by omega)).mono ?_
      rintro e w4 ⟨rfl, hr4, hg4⟩
      have hst2 := (hst.drawn ⟨1, rfl⟩).wrote hG1 hr4 hg4
      clear hr4 hg4))
  clear hst
  have hst := hst2
  clear hst2
  obtain ⟨hd2, HE2⟩ : ∃ y, Hid (put2 hd1 2 to_ = y) := ⟨_, rfl⟩
  have HL2 : Hid (hd2.length = 20) := by rw [← HE2.out]; simp only [put2, List.length_set]; exact HL1.out
  rw [HE2.out] at hst
  go_wp2_with fail
  go_region_held3 (fun w' => w'.cell? ⟨GB, 2, none⟩ = some (.int .u32 sq))
    (first | (with_reducible assumption) | (exact hst2.box.cell 2) | (exact hst.box.cell 2))
    ((go_at_call 23
      refine (put32_any (off := 4) _ _ (hst.row.drawn ⟨1, rfl⟩) (by rw [HL2.out]; omega) (by omega) (by omega) (by omega) (by omega)).mono ?_
      rintro e w4 ⟨rfl, hr4, hg4⟩
      have hst2 := (hst.drawn ⟨1, rfl⟩).wrote hG1 hr4 hg4
      clear hr4 hg4))
  clear hst
  have hst := hst2
  clear hst2
  obtain ⟨hd3, HE3⟩ : ∃ y, Hid (put2 (put2 hd2 4 (sq / 65536)) 6 sq = y) := ⟨_, rfl⟩
  have HL3 : Hid (hd3.length = 20) := by rw [← HE3.out]; simp only [put2, List.length_set]; exact HL2.out
  rw [HE3.out] at hst
  go_wp2_with fail
  go_region_held3 (fun w' => w'.cell? ⟨GB, 3, none⟩ = some (.int .u32 ak))
    (first | (with_reducible assumption) | (exact hst2.box.cell 3) | (exact hst.box.cell 3))
    ((go_at_call 23
      refine (put32_any (off := 8) _ _ (hst.row.drawn ⟨1, rfl⟩) (by rw [HL3.out]; omega) (by omega) (by omega) (by omega) (by omega)).mono ?_
      rintro e w4 ⟨rfl, hr4, hg4⟩
      have hst2 := (hst.drawn ⟨1, rfl⟩).wrote hG1 hr4 hg4
      clear hr4 hg4))
  clear hst
  have hst := hst2
  clear hst2
  obtain ⟨hd4, HE4⟩ : ∃ y, Hid (put2 (put2 hd3 8 (ak / 65536)) 10 ak = y) := ⟨_, rfl⟩
  have HL4 : Hid (hd4.length = 20) := by rw [← HE4.out]; simp only [put2, List.length_set]; exact HL3.out
  rw [HE4.out] at hst
  go_wp2_with fail
  have x4 := hst.box.cell 4
  simp only [List.getElem?_toArray, List.getElem?_cons_zero, List.getElem?_cons_succ] at x4
  have o12 := hst.row.cell 12 (by rw [HL4.out]; omega)
  have o13 := hst.row.cell 13 (by rw [HL4.out]; omega)
  have q12 := hst.row.free 12
  have q13 := hst.row.free 13
  have nG : GB ≠ G := by have := hst.row.lt; omega
  have nG' : G ≠ GB := by have := hst.row.lt; omega
  have HST := Lib.hid hst
  clear hst
  go_region
  have hst2 := (HST.out.wrote hG1 ((HST.out.row.set 12 ((20 + (lo : Int)) / 4 * 16) (by omega) (by omega)).set 13 fl (by omega) (by omega)) ((grown_set G 12 _).trans (grown_set G 13 _))).drew
  clear x4 o12 o13 q12 q13 HST nG nG'
  generalize World.drew _ = w5 at hst2 ⊢
  have hst := hst2
  clear hst2
  obtain ⟨hd5, HE5⟩ : ∃ y, Hid ((hd4.set 12 (u8 ((20 + (lo : Int)) / 4 * 16))).set 13 (u8 fl) = y) := ⟨_, rfl⟩
  have HL5 : Hid (hd5.length = 20) := by rw [← HE5.out]; simp only [List.length_set]; exact HL4.out
  rw [HE5.out] at hst
  go_wp2_with fail
  go_region_held3 (fun w' => w'.cell? ⟨GB, 5, none⟩ = some (.int .i64 wi))
    (first | (with_reducible assumption) | (exact hst2.box.cell 5) | (exact hst.box.cell 5))
    ((go_at_call 22
      refine (put16_any (off := 14) _ _ (hst.row.drawn ⟨1, rfl⟩) (by rw [HL5.out]; omega) (by omega) (by omega) (by omega)).mono ?_
      rintro e w4 ⟨rfl, hr4, hg4⟩
      have hst2 := (hst.drawn ⟨1, rfl⟩).wrote hG1 hr4 hg4
      clear hr4 hg4))
  clear hst
  have hst := hst2
  clear hst2
  obtain ⟨hd6, HE6⟩ : ∃ y, Hid (put2 hd5 14 wi = y) := ⟨_, rfl⟩
  have HL6 : Hid (hd6.length = 20) := by rw [← HE6.out]; simp only [put2, List.length_set]; exact HL5.out
  rw [HE6.out] at hst
  go_wp2_with fail
  go_region_held3 (fun w' => w'.cell? ⟨GB, 6, none⟩ = some (.int .i64 ur))
    (first | (with_reducible assumption) | (exact hst2.box.cell 6) | (exact hst.box.cell 6))
    ((go_at_call 22
      refine (put16_any (off := 18) _ _ (hst.row.drawn ⟨1, rfl⟩) (by rw [HL6.out]; omega) (by omega) (by omega) (by omega)).mono ?_
      rintro e w4 ⟨rfl, hr4, hg4⟩
      have hst2 := (hst.drawn ⟨1, rfl⟩).wrote hG1 hr4 hg4
      clear hr4 hg4))
  clear hst
  have hst := hst2
  clear hst2
  obtain ⟨hd7, HE7⟩ : ∃ y, Hid (put2 hd6 18 ur = y) := ⟨_, rfl⟩
  have HL7 : Hid (hd7.length = 20) := by rw [← HE7.out]; simp only [put2, List.length_set]; exact HL6.out
  rw [HE7.out] at hst
  go_wp2_with fail
  go_region_held3 (fun w' => w'.cell? ⟨GB, 8, none⟩ = some (.slice D n c))
    (first | (with_reducible assumption) | (exact hstB.box.cell 8) | (exact hstA.box.cell 8) | (exact hst.box.cell 8))
    (first
      | (refine step_appn _ (by rfl) _ _ (by rfl) w2.heap.size (some ⟨G, 0, none⟩) L hd7 20 HL7.out (by rfl) (hst.row.drawn ⟨1, rfl⟩).own Z z ob lo LO.out (by rfl) ((HSO.out.below hst.bel).drawn ⟨1, rfl⟩) (by rw [HL7.out, LO.out]; omega) (by exact hst.bel.size) ?_
         intro A2 c2 wa hoA hgA
         obtain ⟨g2, rfl, hg2a, hg2b⟩ := hoA.form (by rw [List.length_append, HL7.out]; omega)
         have hstA := (hst.drawn ⟨1, rfl⟩).app hG1 hoA hgA)
      | (refine step_appn _ (by rfl) _ _ (by rfl) w2.heap.size (some ⟨g2, 0, none⟩) c2 (hd7 ++ ob) (20 + lo) (by rw [List.length_append, HL7.out, LO.out]) (by rfl) hstA.row.own D c data n HN.out (by rfl) (HS2.out.below hstA.bel) (by rw [List.length_append, HL7.out, LO.out, HN.out]; omega) (by exact hstA.bel.size) ?_
         intro A3 c3 wb hoB hgB
         obtain ⟨g3, rfl, hg3a, hg3b⟩ := hoB.form (by rw [List.length_append, List.length_append, HL7.out]; omega)
         have hstB := hstA.app hG1 hoB hgB))
  clear hoA hgA hoB hgB hst hstA hg2a hg2b hg3a hg3b
  have hst := hstB
  clear hstB
  rw [EL.out]
  obtain ⟨hd8, HE8⟩ : ∃ y, Hid (hd7 ++ ob ++ data = y) := ⟨_, rfl⟩
  have HL8 : Hid (hd8.length = L) := by show _ = _; rw [← HE8.out, ← EL.out, List.length_append, List.length_append, HL7.out, LO.out, HN.out]
  rw [HE8.out] at hst
  have hL70 : (L : Int) ≤ 70000 := by rw [← EL.out]; omega
  have hLc : (L : Int) ≤ (c3 : Int) := by have := hst.row.sl.2.1; rw [HL8.out] at this; omega
  have m16 : ¬ c3 = 16 := by omega
  have i16 : (16 : Int) ≤ (L : Int) := by omega
  have i16c : (16 : Int) ≤ (c3 : Int) := by omega
  obtain ⟨tt, ET⟩ : ∃ tt, Hid (totalN f t hd8 = tt) := ⟨_, rfl⟩
  have htt : tt ≤ 65535 := by rw [← ET.out]; exact rnd_le _
  have TA := Lib.hid (fun (w : World) (hb : Bs w (some ⟨g3, 0, none⟩) hd8) => total_n f t _ hd8 L c3 w f0 f1 t0 t1 HL8.out hb hL70)
  rw [ET.out] at TA
  have FA := Lib.hid (fun w => fold_n tt htt w)
  obtain ⟨z, EZ⟩ : ∃ z : Int, Hid (((65535 - tt : Nat) : Int) = z) := ⟨_, rfl⟩
  rw [EZ.out] at FA
  have z0 : 0 ≤ z := by rw [← EZ.out]; omega
  have z1 : z < 65536 := by rw [← EZ.out]; omega
  have wz : IntKind.i64.wrap z = z := IntWalk.i64_in _ (by omega)
  go_wp2_with fail
  go_region_held3 (fun _ => True)
    (exact trivial)
    (first
      | (go_at_call 25
         refine (TA.out _ (by exact (hst.row.drawn ⟨1, rfl⟩).bs)).mono ?_
         rintro e w6 ⟨rfl, hb6⟩
         have hst1 := (hst.drawn ⟨1, rfl⟩).below hb6
         clear hb6)
      | (go_at_call 24
         refine (FA.out _).mono ?_
         rintro e w7 ⟨rfl, rfl⟩)
      | (go_at_call 22
         refine (put16_any (off := 16) _ _ hst1.row (by rw [HL8.out]; omega) (by omega) (by omega) (by omega)).mono ?_
         rintro e w8 ⟨rfl, hr4, hg4⟩
         have hst2 := hst1.wrote hG1 hr4 hg4
         clear hr4 hg4))
  clear hst hst1
  have hw4 : Hid ((20 + (lo : Int)) / 4 * 16 = words4 ⟨fr, to_, sq, ak, fl, wi, ur, gr⟩) := by show _ = _; rw [words4, HLO.out]; show (20 + ((if gr = 0 then (0 : Nat) else 4 : Nat) : Int)) / 4 * 16 = if gr = 0 then (80 : Int) else 96; split <;> rfl
  have HEQ : Hid (put2 hd8 16 z = segB f t ⟨fr, to_, sq, ak, fl, wi, ur, gr⟩ data) := by
    show _ = _
    have e7 : hd7 = headB ⟨fr, to_, sq, ak, fl, wi, ur, gr⟩ [0, 0] := by
      rw [← HE7.out, ← HE6.out, ← HE5.out, ← HE4.out, ← HE3.out, ← HE2.out, ← HE1.out, ← HE0.out, hw4.out]
      rfl
    have e8 : hd8 = seg0 ⟨fr, to_, sq, ak, fl, wi, ur, gr⟩ data := by rw [← HE8.out, e7, ← EO.out]; rfl
    have es : sumSeg f t ⟨fr, to_, sq, ak, fl, wi, ur, gr⟩ data = 65535 - tt := by rw [sumSeg, ← e8, ET.out]
    have q0 : (((65535 - tt : Nat) : Int) / 256 % 256) = (((65535 - tt) / 256 : Nat) : Int) := by omega
    have q1 : (((65535 - tt : Nat) : Int) % 256) = (((65535 - tt) % 256 : Nat) : Int) := by omega
    rw [e8, segB, es, put2, ← EZ.out, q0, q1]
  have FIN : Hid (SBuilt f t ⟨fr, to_, sq, ak, fl, wi, ur, gr⟩ data w (.returned (.tuple #[.slice (some ⟨g3, 0, none⟩) L c3, .int .i64 0])) w8) := by
    refine ⟨some ⟨g3, 0, none⟩, c3, ?_, ?_, ?_⟩
    · rw [E1.out, E2.out, ← HEQ.out, put2_length, HL8.out]
    · rw [E2.out, ← HEQ.out]
      exact hst2.row.own.base (by have := HB2.out.size; omega)
    · exact HB2.out.trans (hst2.bel.mono HB2.out.size)
  clear hst2 wz
  go_wp2_with fail
  go_ret2
  exact FIN.out
theorem segbuild_any (f t fr to_ sq ak fl wi ur gr : Int) (D : Option Addr) (data : List UInt8) (n c : Nat) (w : World) (hn : data.length = n) (hs : Sl w D c data) (f0 : 0 ≤ f) (f1 : f < 4294967296) (t0 : 0 ≤ t) (t1 : t < 4294967296) (s0 : 0 ≤ sq) (s1 : sq < 4294967296) (k0 : 0 ≤ ak) (k1 : ak < 4294967296) :
    Calls Try.prog 9 #[.int .u32 f, .int .u32 t, .agg (segV fr to_ sq ak fl wi ur gr D n c)] w (SBuilt f t ⟨fr, to_, sq, ak, fl, wi, ur, gr⟩ data w) := by
  by_cases h : fitsP ⟨fr, to_, sq, ak, fl, wi, ur, gr⟩
  · by_cases hl : (n : Int) ≤ 65495
    · exact segbuild_good f t fr to_ sq ak fl wi ur gr D data n c w hn hs h hl f0 f1 t0 t1 s0 s1 k0 k1
    · exact segbuild_long f t fr to_ sq ak fl wi ur gr D data n c w hn h (by omega)
  · exact segbuild_arg f t fr to_ sq ak fl wi ur gr D data n c w hn h
end Go.Proofs.Ytpnfdnnfhmecjaa
