/-
  few of frames.
-/
import Derived.Test.YthchjfkbaocoiaaEthH
namespace Go.Proofs.Ythchjfkbaocoiaa
open Go.RowKit
set_option linter.unusedVariables false

def fewL (d : List UInt8) : List UInt8 := if 1500 < d.length then List.replicate 1501 0 else d
theorem fewL_le (d : List UInt8) : (fewL d).length ≤ 1501 := by
  unfold fewL
  split
  · rw [List.length_replicate]; exact Nat.le_refl _
  · omega
/-- The boxes of few, at the start and behind the copy. -/
structure FW (w : World) (C Z : Array Value) (wr : World) : Prop where
  b0 : Blk wr w.heap.size 37 C
  b1 : Blk wr (w.heap.size + 1) 37 Z
  bel : Below w.heap.size w wr
theorem FW.start (w : World) (C Z : Array Value) : FW w C Z ((w.alloc (.cells C 37)).alloc (.cells Z 37)) :=
  ⟨blk_old (blk_new _ _ _) _, by have := blk_new (w.alloc (.cells C 37)) 37 Z; simpa using this, ((Below.refl _ _).alloc (Nat.le_refl _) _).alloc (by simp) _⟩
theorem FW.below {w wr w' : World} {C Z : Array Value} (h : FW w C Z wr) (hb : Below wr.heap.size wr w') : FW w C Z w' :=
  ⟨h.b0.below hb h.b0.lt, h.b1.below hb h.b1.lt, h.bel.trans (hb.mono h.bel.size)⟩
theorem FW.set {w wr : World} {C Z : Array Value} (h : FW w C Z wr) (i : Nat) (u : Value) : FW w (C.setIfInBounds i u) Z (wr.setCell ⟨w.heap.size, i, none⟩ u) :=
  ⟨h.b0.set i u, h.b1.far (by simp) u, h.bel.setCell (Nat.le_refl _) u⟩
theorem own_set13 {w wr : World} {C Z : Array Value} {B : Nat} {D : Option Addr} {c : Nat} {d : List UInt8} (h : FW w C Z wr) (ho : Own wr B D c d) (i : Nat) (u : Value) : Own (wr.setCell ⟨w.heap.size, i, none⟩ u) B D c d :=
  ho.grown h.b0 (by decide) (grown_set _ _ _)
theorem own_made (W : World) (l : Nat) (h : l ≤ 70000) : Own (W.alloc (.cells (madeCells #[.int .u8 0] l) 5)) W.heap.size (some ⟨W.heap.size, 0, none⟩) l (List.replicate l 0) := by
  have hb := blk_new W 5 (madeCells #[.int .u8 0] l)
  rw [made_byt] at hb ⊢
  exact (row_of_blk hb (Nat.le_refl _) (by simp) (by omega)).own

set_option maxHeartbeats 4000000 in
set_option maxRecDepth 100000 in
theorem few_any (x0 x1 x2 x3 x4 x5 x6 x7 x8 x9 x10 x11 k : Int) (D : Option Addr) (d : List UInt8) (n c : Nat) (w : World) (hn : d.length = n) (hs : Sl w D c d) :
    Calls Try.prog 19 #[.agg #[(.int .u8 x0), (.int .u8 x1), (.int .u8 x2), (.int .u8 x3), (.int .u8 x4), (.int .u8 x5), (.int .u8 x6), (.int .u8 x7), (.int .u8 x8), (.int .u8 x9), (.int .u8 x10), (.int .u8 x11), .int .u16 k, .slice D n c]] w (fun e w' => ∃ Dr cr, e = .returned (.agg #[(.int .u8 x0), (.int .u8 x1), (.int .u8 x2), (.int .u8 x3), (.int .u8 x4), (.int .u8 x5), (.int .u8 x6), (.int .u8 x7), (.int .u8 x8), (.int .u8 x9), (.int .u8 x10), (.int .u8 x11), .int .u16 k, .slice Dr (fewL d).length cr]) ∧ Own w' w.heap.size Dr cr (fewL d) ∧ Below w.heap.size w w') := by
  have hst := FW.start w #[(.int .u8 x0), (.int .u8 x1), (.int .u8 x2), (.int .u8 x3), (.int .u8 x4), (.int .u8 x5), (.int .u8 x6), (.int .u8 x7), (.int .u8 x8), (.int .u8 x9), (.int .u8 x10), (.int .u8 x11), .int .u16 k, .slice D n c] #[.int .u8 0, .int .u8 0, .int .u8 0, .int .u8 0, .int .u8 0, .int .u8 0, .int .u8 0, .int .u8 0, .int .u8 0, .int .u8 0, .int .u8 0, .int .u8 0, .int .u16 0, .slice none 0 0]
  have HST := Lib.hid hst
  have HN := Lib.hid hn
  have HS := Lib.hid (hs.below hst.bel)
  clear hn hs hst
  by_cases hlong : (1500 : Int) < n
  · have EF : Hid (fewL d = List.replicate 1501 0) := by show _ = _; rw [fewL, if_pos (by have := HN.out; omega)]
    go_enter Try.func19, Try.ntmps19
    go_upto_region 1 with fail
    generalize (w.alloc (.cells #[(.int .u8 x0), (.int .u8 x1), (.int .u8 x2), (.int .u8 x3), (.int .u8 x4), (.int .u8 x5), (.int .u8 x6), (.int .u8 x7), (.int .u8 x8), (.int .u8 x9), (.int .u8 x10), (.int .u8 x11), .int .u16 k, .slice D n c] 37)).alloc (.cells #[.int .u8 0, .int .u8 0, .int .u8 0, .int .u8 0, .int .u8 0, .int .u8 0, .int .u8 0, .int .u8 0, .int .u8 0, .int .u8 0, .int .u8 0, .int .u8 0, .int .u16 0, .slice none 0 0] 37) = W at *
    have b13 := HST.out.b0.cell 13
    simp only [List.getElem?_toArray, List.getElem?_cons_zero, List.getElem?_cons_succ] at b13
    have hmk : (Instr.makeSlice 29 (.int .i64 1501) (.int .i64 1501)).run Try.prog W = .ok (.slice (some ⟨W.heap.size, 0, none⟩) 1501 1501) (W.alloc (.cells (madeCells #[.int .u8 0] 1501) 5)) := make_bytes 1501 (by omega) W
    have HB : Hid (Below W.heap.size W (W.alloc (.cells (madeCells #[.int .u8 0] 1501) 5))) := (Below.refl _ _).alloc (Nat.le_refl _) _
    have HO : Hid (Own (W.alloc (.cells (madeCells #[.int .u8 0] 1501) 5)) W.heap.size (some ⟨W.heap.size, 0, none⟩) 1501 (List.replicate 1501 0)) := own_made W 1501 (by omega)
    have HST2 := Lib.hid (HST.out.below HB.out)
    generalize EW : W.alloc (.cells (madeCells #[.int .u8 0] 1501) 5) = W1 at *
    have c13 := HST2.out.b0.cell 13
    simp only [List.getElem?_toArray, List.getElem?_cons_zero, List.getElem?_cons_succ] at c13
    have f13 := HST2.out.b0.free 13
    go_upto_region 4 with fail
    have hf := HST2.out.set 13 (.slice (some ⟨W.heap.size, 0, none⟩) 1501 1501)
    have ho := own_set13 HST2.out HO.out 13 (.slice (some ⟨W.heap.size, 0, none⟩) 1501 1501)
    have HOW := Lib.hid (ho.base HST.out.bel.size)
    have HF := Lib.hid hf
    clear b13 c13 f13 hmk hf ho HST2 HB HO HST HS
    generalize W1.setCell ⟨w.heap.size, 13, none⟩ (.slice (some ⟨W.heap.size, 0, none⟩) 1501 1501) = W2 at *
    have hb0 : Blk W2 w.heap.size 37 #[(.int .u8 x0), (.int .u8 x1), (.int .u8 x2), (.int .u8 x3), (.int .u8 x4), (.int .u8 x5), (.int .u8 x6), (.int .u8 x7), (.int .u8 x8), (.int .u8 x9), (.int .u8 x10), (.int .u8 x11), .int .u16 k, .slice (some ⟨W.heap.size, 0, none⟩) 1501 1501] := HF.out.b0
    have hb1 : Blk W2 (w.heap.size + 1) 37 #[.int .u8 0, .int .u8 0, .int .u8 0, .int .u8 0, .int .u8 0, .int .u8 0, .int .u8 0, .int .u8 0, .int .u8 0, .int .u8 0, .int .u8 0, .int .u8 0, .int .u16 0, .slice none 0 0] := HF.out.b1
    have st := hb1.store14 (.int .u8 x0) (.int .u8 x1) (.int .u8 x2) (.int .u8 x3) (.int .u8 x4) (.int .u8 x5) (.int .u8 x6) (.int .u8 x7) (.int .u8 x8) (.int .u8 x9) (.int .u8 x10) (.int .u8 x11) (.int .u16 k) (.slice (some ⟨W.heap.size, 0, none⟩) 1501 1501)
    obtain ⟨m0, m1, m2, m3, m4, m5, m6, m7, m8, m9, m10, m11, m12, m13⟩ := hb0.cells14
    obtain ⟨r0, r1, r2, r3, r4, r5, r6, r7, r8, r9, r10, r11, r12, r13⟩ := hb1.cells14
    obtain ⟨f0, f1, f2, f3, f4, f5, f6, f7, f8, f9, f10, f11, f12, f13⟩ := hb1.frees14
    have ST := Lib.hid st
    clear st hb0 hb1
    go_wp2_with fail
    have FIN : Hid (∃ Dr cr, Ending.returned (.agg #[(.int .u8 x0), (.int .u8 x1), (.int .u8 x2), (.int .u8 x3), (.int .u8 x4), (.int .u8 x5), (.int .u8 x6), (.int .u8 x7), (.int .u8 x8), (.int .u8 x9), (.int .u8 x10), (.int .u8 x11), .int .u16 k, .slice (some ⟨W.heap.size, 0, none⟩) 1501 1501]) = .returned (.agg #[(.int .u8 x0), (.int .u8 x1), (.int .u8 x2), (.int .u8 x3), (.int .u8 x4), (.int .u8 x5), (.int .u8 x6), (.int .u8 x7), (.int .u8 x8), (.int .u8 x9), (.int .u8 x10), (.int .u8 x11), .int .u16 k, .slice Dr (fewL d).length cr]) ∧ Own (((((((((((((((W2).setCell ⟨w.heap.size + 1, 0, none⟩ (.int .u8 x0)).setCell ⟨w.heap.size + 1, 1, none⟩ (.int .u8 x1)).setCell ⟨w.heap.size + 1, 2, none⟩ (.int .u8 x2)).setCell ⟨w.heap.size + 1, 3, none⟩ (.int .u8 x3)).setCell ⟨w.heap.size + 1, 4, none⟩ (.int .u8 x4)).setCell ⟨w.heap.size + 1, 5, none⟩ (.int .u8 x5)).setCell ⟨w.heap.size + 1, 6, none⟩ (.int .u8 x6)).setCell ⟨w.heap.size + 1, 7, none⟩ (.int .u8 x7)).setCell ⟨w.heap.size + 1, 8, none⟩ (.int .u8 x8)).setCell ⟨w.heap.size + 1, 9, none⟩ (.int .u8 x9)).setCell ⟨w.heap.size + 1, 10, none⟩ (.int .u8 x10)).setCell ⟨w.heap.size + 1, 11, none⟩ (.int .u8 x11)).setCell ⟨w.heap.size + 1, 12, none⟩ (.int .u16 k)).setCell ⟨w.heap.size + 1, 13, none⟩ (.slice (some ⟨W.heap.size, 0, none⟩) 1501 1501)) w.heap.size Dr cr (fewL d) ∧ Below w.heap.size w (((((((((((((((W2).setCell ⟨w.heap.size + 1, 0, none⟩ (.int .u8 x0)).setCell ⟨w.heap.size + 1, 1, none⟩ (.int .u8 x1)).setCell ⟨w.heap.size + 1, 2, none⟩ (.int .u8 x2)).setCell ⟨w.heap.size + 1, 3, none⟩ (.int .u8 x3)).setCell ⟨w.heap.size + 1, 4, none⟩ (.int .u8 x4)).setCell ⟨w.heap.size + 1, 5, none⟩ (.int .u8 x5)).setCell ⟨w.heap.size + 1, 6, none⟩ (.int .u8 x6)).setCell ⟨w.heap.size + 1, 7, none⟩ (.int .u8 x7)).setCell ⟨w.heap.size + 1, 8, none⟩ (.int .u8 x8)).setCell ⟨w.heap.size + 1, 9, none⟩ (.int .u8 x9)).setCell ⟨w.heap.size + 1, 10, none⟩ (.int .u8 x10)).setCell ⟨w.heap.size + 1, 11, none⟩ (.int .u8 x11)).setCell ⟨w.heap.size + 1, 12, none⟩ (.int .u16 k)).setCell ⟨w.heap.size + 1, 13, none⟩ (.slice (some ⟨W.heap.size, 0, none⟩) 1501 1501))) :=
      ⟨some ⟨W.heap.size, 0, none⟩, 1501, by rw [EF.out, List.length_replicate], by rw [EF.out]; exact HOW.out.grown HF.out.b1 (by decide) ST.out.2, below_grown HF.out.bel ST.out.2 (Nat.le_refl _) (by omega)⟩
    obtain ⟨d0, d1, d2, d3, d4, d5, d6, d7, d8, d9, d10, d11, d12, d13⟩ := ST.out.1.cells14
    clear m0 m1 m2 m3 m4 m5 m6 m7 m8 m9 m10 m11 m12 m13 r0 r1 r2 r3 r4 r5 r6 r7 r8 r9 r10 r11 r12 r13 f0 f1 f2 f3 f4 f5 f6 f7 f8 f9 f10 f11 f12 f13 ST
    generalize ((((((((((((((W2).setCell ⟨w.heap.size + 1, 0, none⟩ (.int .u8 x0)).setCell ⟨w.heap.size + 1, 1, none⟩ (.int .u8 x1)).setCell ⟨w.heap.size + 1, 2, none⟩ (.int .u8 x2)).setCell ⟨w.heap.size + 1, 3, none⟩ (.int .u8 x3)).setCell ⟨w.heap.size + 1, 4, none⟩ (.int .u8 x4)).setCell ⟨w.heap.size + 1, 5, none⟩ (.int .u8 x5)).setCell ⟨w.heap.size + 1, 6, none⟩ (.int .u8 x6)).setCell ⟨w.heap.size + 1, 7, none⟩ (.int .u8 x7)).setCell ⟨w.heap.size + 1, 8, none⟩ (.int .u8 x8)).setCell ⟨w.heap.size + 1, 9, none⟩ (.int .u8 x9)).setCell ⟨w.heap.size + 1, 10, none⟩ (.int .u8 x10)).setCell ⟨w.heap.size + 1, 11, none⟩ (.int .u8 x11)).setCell ⟨w.heap.size + 1, 12, none⟩ (.int .u16 k)).setCell ⟨w.heap.size + 1, 13, none⟩ (.slice (some ⟨W.heap.size, 0, none⟩) 1501 1501) = W3 at *
    exact bodyPost_ret (v := .agg #[(.int .u8 x0), (.int .u8 x1), (.int .u8 x2), (.int .u8 x3), (.int .u8 x4), (.int .u8 x5), (.int .u8 x6), (.int .u8 x7), (.int .u8 x8), (.int .u8 x9), (.int .u8 x10), (.int .u8 x11), .int .u16 k, .slice (some ⟨W.heap.size, 0, none⟩) 1501 1501]) (by simp [results, Try.results19, go_sem, d0, d1, d2, d3, d4, d5, d6, d7, d8, d9, d10, d11, d12, d13]) rfl FIN.out
  · have EF : Hid (fewL d = d) := by show _ = _; rw [fewL, if_neg (by have := HN.out; omega)]
    go_enter Try.func19, Try.ntmps19
    go_upto_region 1 with fail
    generalize (w.alloc (.cells #[(.int .u8 x0), (.int .u8 x1), (.int .u8 x2), (.int .u8 x3), (.int .u8 x4), (.int .u8 x5), (.int .u8 x6), (.int .u8 x7), (.int .u8 x8), (.int .u8 x9), (.int .u8 x10), (.int .u8 x11), .int .u16 k, .slice D n c] 37)).alloc (.cells #[.int .u8 0, .int .u8 0, .int .u8 0, .int .u8 0, .int .u8 0, .int .u8 0, .int .u8 0, .int .u8 0, .int .u8 0, .int .u8 0, .int .u8 0, .int .u8 0, .int .u16 0, .slice none 0 0] 37) = W at *
    have b13 := HST.out.b0.cell 13
    simp only [List.getElem?_toArray, List.getElem?_cons_zero, List.getElem?_cons_succ] at b13
    go_upto_region 4 with (go_at_call 24; refine (bytes_n D d n c _ HN.out HS.out (by have := HN.out; omega)).mono ?_; rintro e w2 ⟨A2, c2, rfl, ho, hb⟩; have HST2 := Lib.hid (HST.out.below hb); have HO := Lib.hid ho; have HB := Lib.hid hb; clear ho hb; have c13 := HST2.out.b0.cell 13; simp only [List.getElem?_toArray, List.getElem?_cons_zero, List.getElem?_cons_succ] at c13; have f13 := HST2.out.b0.free 13; rw [HN.out])
    have hf := HST2.out.set 13 (.slice A2 n c2)
    have ho := own_set13 HST2.out HO.out 13 (.slice A2 n c2)
    have HOW := Lib.hid (ho.base HST.out.bel.size)
    have HF := Lib.hid hf
    clear b13 c13 f13 hf ho HST2 HB HO HST HS
    generalize w2.setCell ⟨w.heap.size, 13, none⟩ (.slice A2 n c2) = W2 at *
    have hb0 : Blk W2 w.heap.size 37 #[(.int .u8 x0), (.int .u8 x1), (.int .u8 x2), (.int .u8 x3), (.int .u8 x4), (.int .u8 x5), (.int .u8 x6), (.int .u8 x7), (.int .u8 x8), (.int .u8 x9), (.int .u8 x10), (.int .u8 x11), .int .u16 k, .slice A2 n c2] := HF.out.b0
    have hb1 : Blk W2 (w.heap.size + 1) 37 #[.int .u8 0, .int .u8 0, .int .u8 0, .int .u8 0, .int .u8 0, .int .u8 0, .int .u8 0, .int .u8 0, .int .u8 0, .int .u8 0, .int .u8 0, .int .u8 0, .int .u16 0, .slice none 0 0] := HF.out.b1
    have st := hb1.store14 (.int .u8 x0) (.int .u8 x1) (.int .u8 x2) (.int .u8 x3) (.int .u8 x4) (.int .u8 x5) (.int .u8 x6) (.int .u8 x7) (.int .u8 x8) (.int .u8 x9) (.int .u8 x10) (.int .u8 x11) (.int .u16 k) (.slice A2 n c2)
    obtain ⟨m0, m1, m2, m3, m4, m5, m6, m7, m8, m9, m10, m11, m12, m13⟩ := hb0.cells14
    obtain ⟨r0, r1, r2, r3, r4, r5, r6, r7, r8, r9, r10, r11, r12, r13⟩ := hb1.cells14
    obtain ⟨f0, f1, f2, f3, f4, f5, f6, f7, f8, f9, f10, f11, f12, f13⟩ := hb1.frees14
    have ST := Lib.hid st
    clear st hb0 hb1
    go_wp2_with fail
    have FIN : Hid (∃ Dr cr, Ending.returned (.agg #[(.int .u8 x0), (.int .u8 x1), (.int .u8 x2), (.int .u8 x3), (.int .u8 x4), (.int .u8 x5), (.int .u8 x6), (.int .u8 x7), (.int .u8 x8), (.int .u8 x9), (.int .u8 x10), (.int .u8 x11), .int .u16 k, .slice A2 n c2]) = .returned (.agg #[(.int .u8 x0), (.int .u8 x1), (.int .u8 x2), (.int .u8 x3), (.int .u8 x4), (.int .u8 x5), (.int .u8 x6), (.int .u8 x7), (.int .u8 x8), (.int .u8 x9), (.int .u8 x10), (.int .u8 x11), .int .u16 k, .slice Dr (fewL d).length cr]) ∧ Own (((((((((((((((W2).setCell ⟨w.heap.size + 1, 0, none⟩ (.int .u8 x0)).setCell ⟨w.heap.size + 1, 1, none⟩ (.int .u8 x1)).setCell ⟨w.heap.size + 1, 2, none⟩ (.int .u8 x2)).setCell ⟨w.heap.size + 1, 3, none⟩ (.int .u8 x3)).setCell ⟨w.heap.size + 1, 4, none⟩ (.int .u8 x4)).setCell ⟨w.heap.size + 1, 5, none⟩ (.int .u8 x5)).setCell ⟨w.heap.size + 1, 6, none⟩ (.int .u8 x6)).setCell ⟨w.heap.size + 1, 7, none⟩ (.int .u8 x7)).setCell ⟨w.heap.size + 1, 8, none⟩ (.int .u8 x8)).setCell ⟨w.heap.size + 1, 9, none⟩ (.int .u8 x9)).setCell ⟨w.heap.size + 1, 10, none⟩ (.int .u8 x10)).setCell ⟨w.heap.size + 1, 11, none⟩ (.int .u8 x11)).setCell ⟨w.heap.size + 1, 12, none⟩ (.int .u16 k)).setCell ⟨w.heap.size + 1, 13, none⟩ (.slice A2 n c2)) w.heap.size Dr cr (fewL d) ∧ Below w.heap.size w (((((((((((((((W2).setCell ⟨w.heap.size + 1, 0, none⟩ (.int .u8 x0)).setCell ⟨w.heap.size + 1, 1, none⟩ (.int .u8 x1)).setCell ⟨w.heap.size + 1, 2, none⟩ (.int .u8 x2)).setCell ⟨w.heap.size + 1, 3, none⟩ (.int .u8 x3)).setCell ⟨w.heap.size + 1, 4, none⟩ (.int .u8 x4)).setCell ⟨w.heap.size + 1, 5, none⟩ (.int .u8 x5)).setCell ⟨w.heap.size + 1, 6, none⟩ (.int .u8 x6)).setCell ⟨w.heap.size + 1, 7, none⟩ (.int .u8 x7)).setCell ⟨w.heap.size + 1, 8, none⟩ (.int .u8 x8)).setCell ⟨w.heap.size + 1, 9, none⟩ (.int .u8 x9)).setCell ⟨w.heap.size + 1, 10, none⟩ (.int .u8 x10)).setCell ⟨w.heap.size + 1, 11, none⟩ (.int .u8 x11)).setCell ⟨w.heap.size + 1, 12, none⟩ (.int .u16 k)).setCell ⟨w.heap.size + 1, 13, none⟩ (.slice A2 n c2))) :=
      ⟨A2, c2, by rw [EF.out, HN.out], by rw [EF.out]; exact HOW.out.grown HF.out.b1 (by decide) ST.out.2, below_grown HF.out.bel ST.out.2 (Nat.le_refl _) (by omega)⟩
    obtain ⟨d0, d1, d2, d3, d4, d5, d6, d7, d8, d9, d10, d11, d12, d13⟩ := ST.out.1.cells14
    clear m0 m1 m2 m3 m4 m5 m6 m7 m8 m9 m10 m11 m12 m13 r0 r1 r2 r3 r4 r5 r6 r7 r8 r9 r10 r11 r12 r13 f0 f1 f2 f3 f4 f5 f6 f7 f8 f9 f10 f11 f12 f13 ST
    generalize ((((((((((((((W2).setCell ⟨w.heap.size + 1, 0, none⟩ (.int .u8 x0)).setCell ⟨w.heap.size + 1, 1, none⟩ (.int .u8 x1)).setCell ⟨w.heap.size + 1, 2, none⟩ (.int .u8 x2)).setCell ⟨w.heap.size + 1, 3, none⟩ (.int .u8 x3)).setCell ⟨w.heap.size + 1, 4, none⟩ (.int .u8 x4)).setCell ⟨w.heap.size + 1, 5, none⟩ (.int .u8 x5)).setCell ⟨w.heap.size + 1, 6, none⟩ (.int .u8 x6)).setCell ⟨w.heap.size + 1, 7, none⟩ (.int .u8 x7)).setCell ⟨w.heap.size + 1, 8, none⟩ (.int .u8 x8)).setCell ⟨w.heap.size + 1, 9, none⟩ (.int .u8 x9)).setCell ⟨w.heap.size + 1, 10, none⟩ (.int .u8 x10)).setCell ⟨w.heap.size + 1, 11, none⟩ (.int .u8 x11)).setCell ⟨w.heap.size + 1, 12, none⟩ (.int .u16 k)).setCell ⟨w.heap.size + 1, 13, none⟩ (.slice A2 n c2) = W3 at *
    exact bodyPost_ret (v := .agg #[(.int .u8 x0), (.int .u8 x1), (.int .u8 x2), (.int .u8 x3), (.int .u8 x4), (.int .u8 x5), (.int .u8 x6), (.int .u8 x7), (.int .u8 x8), (.int .u8 x9), (.int .u8 x10), (.int .u8 x11), .int .u16 k, .slice A2 n c2]) (by simp [results, Try.results19, go_sem, d0, d1, d2, d3, d4, d5, d6, d7, d8, d9, d10, d11, d12, d13]) rfl FIN.out
end Go.Proofs.Ythchjfkbaocoiaa
