/-
  The walk of eth.Build.
-/
import Derived.Test.YthchjfkbaocoiaaCopy
import Derived.Test.YthchjfkbaocoiaaBlk6
import Derived.Test.YthchjfkbaocoiaaEthTellsWalk
import Derived.Deep.RegionLaw
import Derived.RegionTactic
import Derived.Deep.DeepCutAuto
namespace Go.Proofs.Ythchjfkbaocoiaa
open Go.RowKit
set_option linter.unusedVariables false

/-- A frame's bytes. -/
def ethB (to_ fr : List UInt8) (k : Int) (d : List UInt8) : List UInt8 := to_ ++ fr ++ [u8 (k / 256), u8 (k % 256)] ++ d ++ List.replicate (46 - d.length) 0
def ethE (n : Nat) : Int := if (n : Int) ≤ 1500 then 0 else 3
def ethR (to_ fr : List UInt8) (k : Int) (d : List UInt8) : List UInt8 := if (d.length : Int) ≤ 1500 then ethB to_ fr k d else []
theorem ethB_length (to_ fr : List UInt8) (k : Int) (d : List UInt8) (h1 : to_.length = 6) (h2 : fr.length = 6) : (ethB to_ fr k d).length = 14 + d.length + (46 - d.length) := by simp [ethB, h1, h2]; omega
/-- A frame's cells. -/
def frameV (to_ fr : List UInt8) (k : Int) (D : Option Addr) (n c : Nat) : Array Value := (to_.map bval ++ fr.map bval ++ [Value.int .u16 k, Value.slice D n c]).toArray
def EBuilt (to_ fr : List UInt8) (k : Int) (d : List UInt8) (w : World) (e : Ending) (w' : World) : Prop :=
  ∃ X x, e = .returned (.tuple #[.slice X (ethR to_ fr k d).length x, .int .i64 (ethE d.length)]) ∧ Own w' w.heap.size X x (ethR to_ fr k d) ∧ Below w.heap.size w w'
theorem make_bytes (l : Nat) (h : l ≤ 70000) (W : World) : (Instr.makeSlice 29 (.int .i64 (l : Int)) (.int .i64 (l : Int))).run Try.prog W = .ok (.slice (some ⟨W.heap.size, 0, none⟩) l l) (W.alloc (.cells (madeCells #[.int .u8 0] l) 5)) := by
  obtain ⟨i0, hi, hz0, hz1, hz2⟩ := info_parts info_u8
  have := run_make (P := Try.prog) W 29 5 i0 (.int .u8 0) Try.underlying29 hi hz0 .i64 .i64 l l (by omega) (by omega) (by rw [hz2]; omega) (by omega)
  rw [Int.toNat_natCast, hz1, Nat.mul_one] at this
  exact this
theorem made_byt (l : Nat) : madeCells #[.int .u8 0] l = byt (List.replicate l 0) := by
  apply Array.toList_inj.1
  rw [toList_madeCells_one]
  simp [byt, bval]
theorem byt_set (L : List UInt8) (j : Nat) (v : Int) (h0 : 0 ≤ v) (h1 : v < 256) : (byt L).setIfInBounds j (.int .u8 v) = byt (L.set j (u8 v)) := by
  unfold byt
  rw [List.map_set]
  simp [bval, u8_toNat v h0 h1]
theorem bs_of_cells {w : World} {g off : Nat} {t : TypeId} {cs : Array Value} {ys : List UInt8} (h : Blk w g t cs) (hc : ∀ i, i < ys.length → cs[off + i]? = some (bval (ys.getD i 0))) : Bs w (some ⟨g, off, none⟩) ys :=
  .inr ⟨g, off, rfl, fun i hi => by rw [h.cell, hc i hi]; rfl⟩

theorem ethB_fill (a0 a1 a2 a3 a4 a5 b0 b1 b2 b3 b4 b5 : UInt8) (k : Int) (d : List UInt8) (n N : Nat) (hn : d.length = n) (hN : 14 + n + (46 - n) = N) :
    splice (((splice (splice (List.replicate N 0) 0 [a0, a1, a2, a3, a4, a5]) 6 [b0, b1, b2, b3, b4, b5]).set 12 (u8 (k / 256))).set 13 (u8 (k % 256))) 14 d = ethB [a0, a1, a2, a3, a4, a5] [b0, b1, b2, b3, b4, b5] k d := by
  have e : (List.replicate N (0 : UInt8)) = [0, 0, 0, 0, 0, 0, 0, 0, 0, 0, 0, 0, 0, 0] ++ List.replicate (n + (46 - n)) 0 := by
    rw [show N = 14 + (n + (46 - n)) by omega, ← List.replicate_append_replicate]
    rfl
  rw [e]
  have : ethB [a0, a1, a2, a3, a4, a5] [b0, b1, b2, b3, b4, b5] k d = [a0, a1, a2, a3, a4, a5, b0, b1, b2, b3, b4, b5, u8 (k / 256), u8 (k % 256)] ++ d ++ List.replicate (46 - n) 0 := by
    unfold ethB
    rw [hn]
    simp
  rw [this]
  simp [splice, hn]
  rw [← List.drop_drop]
  simp

set_option maxHeartbeats 4000000 in
set_option maxRecDepth 100000 in
theorem ebuild_any (to_ fr : List UInt8) (k : Int) (D : Option Addr) (d : List UInt8) (n c : Nat) (w : World) (h1 : to_.length = 6) (h2 : fr.length = 6) (k0 : 0 ≤ k) (k1 : k < 65536) (hn : d.length = n) (hs : Sl w D c d) :
    Calls Try.prog 20 #[.agg (frameV to_ fr k D n c)] w (EBuilt to_ fr k d w) := by
  have hb : Below w.heap.size w (w.alloc (.cells (frameV to_ fr k D n c) 37)) := (Below.refl _ _).alloc (Nat.le_refl _) _
  have hbx := blk_new w 37 (frameV to_ fr k D n c)
  obtain ⟨a0, a1, a2, a3, a4, a5, rfl⟩ := six h1
  obtain ⟨b0, b1, b2, b3, b4, b5, rfl⟩ := six h2
  have HN := Lib.hid hn
  have HS := Lib.hid hs
  unfold frameV at hb hbx ⊢
  simp only [List.map_cons, List.map_nil, bval, List.cons_append, List.nil_append] at hb hbx ⊢
  have HB := Lib.hid hb
  have HX := Lib.hid hbx
  clear hn hs hb hbx h1 h2
  by_cases hlong : (1500 : Int) < n
  · have FIN : Hid (EBuilt [a0, a1, a2, a3, a4, a5] [b0, b1, b2, b3, b4, b5] k d w (.returned (.tuple #[.slice none 0 0, .int .i64 3])) _) := ⟨none, 0, by rw [ethR, if_neg (by rw [HN.out]; omega), ethE, if_neg (by rw [HN.out]; omega)]; rfl, by rw [ethR, if_neg (by rw [HN.out]; omega)]; exact World.ownsRow_nil _ _ _ _, HB.out⟩
    go_enter Try.func20, Try.ntmps20
    go_wp2_with fail
    go_ret2
    exact FIN.out
  · obtain ⟨N, EN⟩ : ∃ N : Nat, Hid (14 + n + (46 - n) = N) := ⟨_, rfl⟩
    have hN1 : 60 ≤ N := by have := EN.out; omega
    have hN2 : 14 + n ≤ N := by have := EN.out; omega
    have hN3 : N ≤ 1514 := by have := EN.out; omega
    have hmx : max (60 : Int) (14 + (n : Int)) = (N : Int) := by have := EN.out; omega
    have hmk := make_bytes N (by omega)
    have hgb : Blk ((w.alloc (.cells #[.int .u8 (a0.toNat : Int), .int .u8 (a1.toNat : Int), .int .u8 (a2.toNat : Int), .int .u8 (a3.toNat : Int), .int .u8 (a4.toNat : Int), .int .u8 (a5.toNat : Int), .int .u8 (b0.toNat : Int), .int .u8 (b1.toNat : Int), .int .u8 (b2.toNat : Int), .int .u8 (b3.toNat : Int), .int .u8 (b4.toNat : Int), .int .u8 (b5.toNat : Int), .int .u16 k, .slice D n c] 37)).alloc (.cells (madeCells #[.int .u8 0] N) 5)) (w.heap.size + 1) 5 (byt (List.replicate N 0)) := by
      rw [← made_byt]
      have := blk_new (w.alloc (.cells #[.int .u8 (a0.toNat : Int), .int .u8 (a1.toNat : Int), .int .u8 (a2.toNat : Int), .int .u8 (a3.toNat : Int), .int .u8 (a4.toNat : Int), .int .u8 (a5.toNat : Int), .int .u8 (b0.toNat : Int), .int .u8 (b1.toNat : Int), .int .u8 (b2.toNat : Int), .int .u8 (b3.toNat : Int), .int .u8 (b4.toNat : Int), .int .u8 (b5.toNat : Int), .int .u16 k, .slice D n c] 37)) 5 (madeCells #[.int .u8 0] N)
      simpa using this
    have hxb := blk_old HX.out (.cells (madeCells #[.int .u8 0] N) 5)
    have hbb := HB.out.alloc (by simp) (.cells (madeCells #[.int .u8 0] N) 5)
    have HG1 := Lib.hid hgb
    have HX1 := Lib.hid hxb
    have HB1 := Lib.hid hbb
    clear hgb hxb hbb
    go_enter Try.func20, Try.ntmps20
    go_upto_region 4 with fail
    clear hmx hmk
    generalize (w.alloc (.cells #[.int .u8 (a0.toNat : Int), .int .u8 (a1.toNat : Int), .int .u8 (a2.toNat : Int), .int .u8 (a3.toNat : Int), .int .u8 (a4.toNat : Int), .int .u8 (a5.toNat : Int), .int .u8 (b0.toNat : Int), .int .u8 (b1.toNat : Int), .int .u8 (b2.toNat : Int), .int .u8 (b3.toNat : Int), .int .u8 (b4.toNat : Int), .int .u8 (b5.toNat : Int), .int .u16 k, .slice D n c] 37)).alloc (.cells (madeCells #[.int .u8 0] N) 5) = w1 at *
    have SRC1 : Hid (Bs w1 (some ⟨w.heap.size, 0, none⟩) [a0, a1, a2, a3, a4, a5]) := bs_of_cells HX1.out (fun i hi => by
      simp at hi
      rcases (by omega : i = 0 ∨ i = 1 ∨ i = 2 ∨ i = 3 ∨ i = 4 ∨ i = 5) with rfl | rfl | rfl | rfl | rfl | rfl <;> rfl)
    have LEN0 : Hid ((List.replicate N (0 : UInt8)).length = N) := by show _ = _; simp
    obtain ⟨L0, E0⟩ : ∃ L, Hid (List.replicate N (0 : UInt8) = L) := ⟨_, rfl⟩
    rw [E0.out] at HG1 LEN0
    go_upto_region 5 with ((with_reducible refine copy_n rfl (.tmp 16) (.tmp 18) 29 29 rfl Try.underlying29 (w.heap.size + 1) 0 N N rfl (some ⟨w.heap.size, 0, none⟩) 6 6 rfl L0 HG1.out [a0, a1, a2, a3, a4, a5] SRC1.out rfl (by omega) (by rw [LEN0.out]; omega) ?_; intro w2 hg2 hb2))
    have HG2 : Hid (Blk w2.drew (w.heap.size + 1) 5 (byt (splice L0 0 [a0, a1, a2, a3, a4, a5]))) := hg2
    have hx2 := HX1.out.below hb2 (by omega)
    have HX2 : Hid (Blk w2.drew w.heap.size 37 #[.int .u8 (a0.toNat : Int), .int .u8 (a1.toNat : Int), .int .u8 (a2.toNat : Int), .int .u8 (a3.toNat : Int), .int .u8 (a4.toNat : Int), .int .u8 (a5.toNat : Int), .int .u8 (b0.toNat : Int), .int .u8 (b1.toNat : Int), .int .u8 (b2.toNat : Int), .int .u8 (b3.toNat : Int), .int .u8 (b4.toNat : Int), .int .u8 (b5.toNat : Int), .int .u16 k, .slice D n c]) := hx2
    clear hx2
    have HB2 : Hid (Below w.heap.size w w2.drew) := below_drew (HB1.out.trans (hb2.mono (show w.heap.size ≤ w.heap.size + 1 by omega)))
    have SRC2 : Hid (Bs w2.drew (some ⟨w.heap.size, 6, none⟩) [b0, b1, b2, b3, b4, b5]) := bs_of_cells HX2.out (fun i hi => by
      simp at hi
      rcases (by omega : i = 0 ∨ i = 1 ∨ i = 2 ∨ i = 3 ∨ i = 4 ∨ i = 5) with rfl | rfl | rfl | rfl | rfl | rfl <;> rfl)
    have LEN1 : Hid ((splice L0 0 [a0, a1, a2, a3, a4, a5]).length = N) := by show _ = _; rw [length_splice _ _ _ (by simp [LEN0.out]; omega), LEN0.out]
    obtain ⟨L1, E1⟩ : ∃ L, Hid (splice L0 0 [a0, a1, a2, a3, a4, a5] = L) := ⟨_, rfl⟩
    rw [E1.out] at HG2 LEN1
    have z6 : (6 : Int) ≤ (N : Int) := by omega
    have z6' : ¬ N = 6 := by omega
    clear hg2 hb2 SRC1 HG1 HX1 HB1
    go_region_law ((refine step_copy_n (by rfl) (.tmp 23) (.tmp 25) 29 29 (by rfl) Try.underlying29 (w.heap.size + 1) 6 _ _ (by rfl) (some ⟨w.heap.size, 6, none⟩) 6 6 (by rfl) L1 HG2.out [b0, b1, b2, b3, b4, b5] SRC2.out (by rfl) (by omega) (by rw [LEN1.out]; omega) ?_; intro w3 hg3 hb3))
    have HG3 : Hid (Blk w3 (w.heap.size + 1) 5 (byt (splice L1 6 [b0, b1, b2, b3, b4, b5]))) := hg3
    have hx3 := HX2.out.below hb3 (by omega)
    have HX3 : Hid (Blk w3 w.heap.size 37 #[.int .u8 (a0.toNat : Int), .int .u8 (a1.toNat : Int), .int .u8 (a2.toNat : Int), .int .u8 (a3.toNat : Int), .int .u8 (a4.toNat : Int), .int .u8 (a5.toNat : Int), .int .u8 (b0.toNat : Int), .int .u8 (b1.toNat : Int), .int .u8 (b2.toNat : Int), .int .u8 (b3.toNat : Int), .int .u8 (b4.toNat : Int), .int .u8 (b5.toNat : Int), .int .u16 k, .slice D n c]) := hx3
    clear hx3
    have HB3 : Hid (Below w.heap.size w w3) := HB2.out.trans (hb3.mono (show w.heap.size ≤ w.heap.size + 1 by omega))
    have LEN2 : Hid ((splice L1 6 [b0, b1, b2, b3, b4, b5]).length = N) := by show _ = _; rw [length_splice _ _ _ (by simp [LEN1.out]; omega), LEN1.out]
    obtain ⟨L2, E2⟩ : ∃ L, Hid (splice L1 6 [b0, b1, b2, b3, b4, b5] = L) := ⟨_, rfl⟩
    rw [E2.out] at HG3 LEN2
    clear hg3 hb3 SRC2 HG2 HX2 HB2
    have RW : Hid (Row 5 w3 (w.heap.size + 1) (some ⟨w.heap.size + 1, 0, none⟩) N L2) := row_of_blk HG3.out (Nat.le_refl _) LEN2.out (by omega)
    have c12 := RW.out.cell 12 (by rw [LEN2.out]; omega)
    have c13 := RW.out.cell 13 (by rw [LEN2.out]; omega)
    have f12 := RW.out.free 12
    have f13 := RW.out.free 13
    have b12 := HX3.out.cell 12
    simp only [List.getElem?_toArray, List.getElem?_cons_zero, List.getElem?_cons_succ] at b12
    have z13 : (13 : Int) < (N : Int) := by omega
    have z12 : (12 : Int) < (N : Int) := by omega
    go_upto_region 7 with fail
    have hg4 := (HG3.out.set 12 (.int .u8 (k / 256))).set 13 (.int .u8 (k % 256))
    rw [byt_set _ _ _ (by omega) (by omega), byt_set _ _ _ (by omega) (by omega)] at hg4
    have hx4 := (HX3.out.far (p := ⟨w.heap.size + 1, 12, none⟩) (by simp) (.int .u8 (k / 256))).far (p := ⟨w.heap.size + 1, 13, none⟩) (by simp) (.int .u8 (k % 256))
    have hb4 := (HB3.out.setCell (p := ⟨w.heap.size + 1, 12, none⟩) (by simp) (.int .u8 (k / 256))).setCell (p := ⟨w.heap.size + 1, 13, none⟩) (by simp) (.int .u8 (k % 256))
    have LEN3 : Hid (((L2.set 12 (u8 (k / 256))).set 13 (u8 (k % 256))).length = N) := by show _ = _; rw [List.length_set, List.length_set, LEN2.out]
    have HG4 := Lib.hid hg4
    have HX4 := Lib.hid hx4
    have HB4 := Lib.hid hb4
    clear hg4 hx4 hb4 c12 c13 f12 f13 b12 z12 z13 z6 z6' RW HG3 HX3 HB3
    generalize (w3.setCell ⟨w.heap.size + 1, 12, none⟩ (.int .u8 (k / 256))).setCell ⟨w.heap.size + 1, 13, none⟩ (.int .u8 (k % 256)) = w4 at *
    have FILL : Hid (splice ((L2.set 12 (u8 (k / 256))).set 13 (u8 (k % 256))) 14 d = ethB [a0, a1, a2, a3, a4, a5] [b0, b1, b2, b3, b4, b5] k d) := by
      show _ = _
      rw [← E2.out, ← E1.out, ← E0.out]
      exact ethB_fill _ _ _ _ _ _ _ _ _ _ _ _ k d n N HN.out EN.out
    obtain ⟨L3, E3⟩ : ∃ L, Hid ((L2.set 12 (u8 (k / 256))).set 13 (u8 (k % 256)) = L) := ⟨_, rfl⟩
    rw [E3.out] at HG4 LEN3 FILL
    have b13 := HX4.out.cell 13
    simp only [List.getElem?_toArray, List.getElem?_cons_zero, List.getElem?_cons_succ] at b13
    have z14 : (14 : Int) ≤ (N : Int) := by omega
    have z14' : ¬ N = 14 := by omega
    have HG5 : Hid (Blk w4.drew (w.heap.size + 1) 5 (byt L3)) := HG4
    have HB5 : Hid (Below w.heap.size w w4.drew) := below_drew HB4.out
    have SRC5 : Hid (Bs w4.drew D d) := (HS.out.below HB5.out).1
    go_region_law ((refine step_copy_n (by rfl) (.tmp 43) (.tmp 45) 29 29 (by rfl) Try.underlying29 (w.heap.size + 1) 14 _ _ (by rfl) D n c (by rfl) L3 HG5.out d SRC5.out HN.out (by omega) (by rw [LEN3.out]; omega) ?_; intro w5 hg5 hb5))
    rw [FILL.out] at hg5
    have HL : Hid ((ethB [a0, a1, a2, a3, a4, a5] [b0, b1, b2, b3, b4, b5] k d).length = N) := by show _ = _; rw [ethB_length _ _ _ _ rfl rfl, HN.out, EN.out]
    have FIN : Hid (EBuilt [a0, a1, a2, a3, a4, a5] [b0, b1, b2, b3, b4, b5] k d w (.returned (.tuple #[.slice (some ⟨w.heap.size + 1, 0, none⟩) N N, .int .i64 0])) w5) := by
      refine ⟨some ⟨w.heap.size + 1, 0, none⟩, N, ?_, ?_, HB5.out.trans (hb5.mono (show w.heap.size ≤ w.heap.size + 1 by omega))⟩
      · rw [ethR, if_pos (by rw [HN.out]; omega), HL.out, ethE, if_pos (by rw [HN.out]; omega)]
      · rw [ethR, if_pos (by rw [HN.out]; omega)]
        exact (row_of_blk hg5 (by omega) HL.out (by omega)).own
    clear hg5 hb5
    go_wp2_with fail
    go_ret2
    exact FIN.out
end Go.Proofs.Ythchjfkbaocoiaa
