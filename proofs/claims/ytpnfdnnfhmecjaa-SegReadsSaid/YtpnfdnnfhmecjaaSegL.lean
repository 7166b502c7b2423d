/-
  few of segments.
-/
import Derived.Test.YtpnfdnnfhmecjaaSegK
namespace Go.Proofs.Ytpnfdnnfhmecjaa
open Go.RowKit
set_option linter.unusedVariables false

def fewS (d : List UInt8) : List UInt8 := if 65495 < d.length then List.replicate 65496 0 else d.take 300
/-- The boxes of few, at the start and behind the copy. -/
structure FW (w : World) (C Z : Array Value) (wr : World) : Prop where
  b0 : Blk wr w.heap.size 26 C
  b1 : Blk wr (w.heap.size + 1) 26 Z
  bel : Below w.heap.size w wr
theorem FW.start (w : World) (C Z : Array Value) : FW w C Z ((w.alloc (.cells C 26)).alloc (.cells Z 26)) :=
  ⟨blk_old (blk_new _ _ _) _, by have := blk_new (w.alloc (.cells C 26)) 26 Z; simpa using this, ((Below.refl _ _).alloc (Nat.le_refl _) _).alloc (by simp) _⟩
theorem FW.below {w wr w' : World} {C Z : Array Value} (h : FW w C Z wr) (hb : Below wr.heap.size wr w') : FW w C Z w' :=
  ⟨h.b0.below hb h.b0.lt, h.b1.below hb h.b1.lt, h.bel.trans (hb.mono h.bel.size)⟩
theorem FW.set {w wr : World} {C Z : Array Value} (h : FW w C Z wr) (i : Nat) (u : Value) : FW w (C.setIfInBounds i u) Z (wr.setCell ⟨w.heap.size, i, none⟩ u) :=
  ⟨h.b0.set i u, h.b1.far (by simp) u, h.bel.setCell (Nat.le_refl _) u⟩
theorem own_set8 {w wr : World} {C Z : Array Value} {B : Nat} {D : Option Addr} {c : Nat} {d : List UInt8} (h : FW w C Z wr) (ho : Own wr B D c d) (i : Nat) (u : Value) : Own (wr.setCell ⟨w.heap.size, i, none⟩ u) B D c d :=
  ho.grown h.b0 (by decide) (grown_set _ _ _)

/-- From the store on: load all, and store into the result. -/
def FewR (fr to_ sq ak fl wi ur gr : Int) (d : List UInt8) (w : World) (e : Ending) (w' : World) : Prop :=
  ∃ Dr cr, e = .returned (.agg (segV fr to_ sq ak fl wi ur gr Dr (fewS d).length cr)) ∧ Own w' w.heap.size Dr cr (fewS d) ∧ Below w.heap.size w w'

set_option maxHeartbeats 4000000 in
set_option maxRecDepth 100000 in
theorem fews_any (fr to_ sq ak fl wi ur gr : Int) (D : Option Addr) (d : List UInt8) (n c : Nat) (w : World) (hn : d.length = n) (hs : Sl w D c d) :
    Calls Try.prog 8 #[.agg (segV fr to_ sq ak fl wi ur gr D n c)] w (FewR fr to_ sq ak fl wi ur gr d w) := by
  have hst := FW.start w (segV fr to_ sq ak fl wi ur gr D n c) (segV 0 0 0 0 0 0 0 0 none 0 0)
  have HST := Lib.hid hst
  have HN := Lib.hid hn
  have HSS := hs.below hst.bel
  have HS := Lib.hid HSS
  have hcap : (n : Int) ≤ c := by have := hs.2.1; rw [hn] at this; omega
  clear hn hs hst HSS
  by_cases hlong : (65495 : Int) < n
  · have EF : Hid (fewS d = List.replicate 65496 0) := by show _ = _; rw [fewS, if_pos (by have := HN.out; omega)]
    obtain ⟨W, EW⟩ : ∃ W, Hid ((w.alloc (.cells (segV fr to_ sq ak fl wi ur gr D n c) 26)).alloc (.cells (segV 0 0 0 0 0 0 0 0 none 0 0) 26) = W) := ⟨_, rfl⟩
    rw [EW.out] at HST HS
    obtain ⟨x0, x1, x2, x3, x4, x5, x6, x7, x8⟩ := HST.out.b0.cells9
    have hmk := make_cap 65496 65496 (by omega) (by omega) (by omega) W
    have e6 : (65496 : Int).toNat = 65496 := rfl
    rw [e6] at hmk
    clear e6
    have HB : Hid (Below W.heap.size W (W.alloc (.cells (madeCells #[.int .u8 0] 65496) 5))) := (Below.refl _ _).alloc (Nat.le_refl _) _
    have HO : Hid (Own (W.alloc (.cells (madeCells #[.int .u8 0] 65496) 5)) W.heap.size (some ⟨W.heap.size, 0, none⟩) 65496 (List.replicate 65496 0)) := made_own W 65496 65496 (Nat.le_refl _) (by omega)
    have HST2 := Lib.hid (HST.out.below HB.out)
    generalize W.alloc (.cells (madeCells #[.int .u8 0] 65496) 5) = W1 at *
    have c8 : W1.cell? ⟨w.heap.size, 8, none⟩ = some (.slice D n c) := HST2.out.b0.cell 8
    have f8 := HST2.out.b0.free 8
    go_enter Try.func8, Try.ntmps8
    go_upto_region 1 with fail
    rw [EW.out]
    go_upto_region 4 with fail
    have hf := HST2.out.set 8 (.slice (some ⟨W.heap.size, 0, none⟩) 65496 65496)
    have ho := own_set8 HST2.out HO.out 8 (.slice (some ⟨W.heap.size, 0, none⟩) 65496 65496)
    have HOW := Lib.hid (ho.base HST.out.bel.size)
    have HF := Lib.hid hf
    obtain ⟨RA, ERA⟩ : ∃ RA, Hid ((some ⟨W.heap.size, 0, none⟩ : Option Addr) = RA) := ⟨_, rfl⟩
    rw [ERA.out] at HOW HF ⊢
    clear x0 x1 x2 x3 x4 x5 x6 x7 x8 c8 f8 hmk hf ho HST2 HB HO HST HS
    generalize W1.setCell ⟨w.heap.size, 8, none⟩ (.slice RA 65496 65496) = W2 at *
    obtain ⟨x0, x1, x2, x3, x4, x5, x6, x7, x8⟩ := (show Blk W2 w.heap.size 26 (segV fr to_ sq ak fl wi ur gr RA 65496 65496) from HF.out.b0).cells9
    obtain ⟨y0, y1, y2, y3, y4, y5, y6, y7, y8⟩ := HF.out.b1.cells9
    obtain ⟨z0, z1, z2, z3, z4, z5, z6, z7, z8⟩ := HF.out.b1.frees9
    have st := HF.out.b1.store9 (.int .i64 fr) (.int .i64 to_) (.int .u32 sq) (.int .u32 ak) (.int .i64 fl) (.int .i64 wi) (.int .i64 ur) (.int .i64 gr) (.slice RA 65496 65496)
    have HR := Lib.hid (below_grown HF.out.bel st.2 (Nat.le_refl _) (by omega))
    have HOR := Lib.hid (HOW.out.grown HF.out.b1 (by decide) st.2)
    have HK := Lib.hid st.1
    clear st
    go_wp2_with fail
    generalize World.setCell _ _ (Value.slice RA 65496 65496) = w5 at HK HR HOR ⊢
    obtain ⟨d0, d1, d2, d3, d4, d5, d6, d7, d8⟩ := HK.out.cells9
    have FIN : Hid (FewR fr to_ sq ak fl wi ur gr d w (.returned (.agg (segV fr to_ sq ak fl wi ur gr RA 65496 65496))) w5) := ⟨RA, 65496, by rw [EF.out, List.length_replicate], by rw [EF.out]; exact HOR.out, HR.out⟩
    exact bodyPost_ret (v := .agg (segV fr to_ sq ak fl wi ur gr RA 65496 65496)) (by simp [results, Try.results8, go_sem, d0, d1, d2, d3, d4, d5, d6, d7, d8]) rfl FIN.out
  · obtain ⟨m, LM⟩ : ∃ m, Hid ((d.take 300).length = m) := ⟨_, rfl⟩
    have hq0 : min (n : Int) 300 = (m : Int) := by rw [← LM.out, List.length_take, HN.out]; omega
    have hmn : (m : Int) ≤ n := by omega
    have EF : Hid (fewS d = d.take 300) := by show _ = _; rw [fewS, if_neg (by have := HN.out; omega)]
    obtain ⟨W, EW⟩ : ∃ W, Hid ((w.alloc (.cells (segV fr to_ sq ak fl wi ur gr D n c) 26)).alloc (.cells (segV 0 0 0 0 0 0 0 0 none 0 0) 26) = W) := ⟨_, rfl⟩
    rw [EW.out] at HST HS
    obtain ⟨x0, x1, x2, x3, x4, x5, x6, x7, x8⟩ := HST.out.b0.cells9
    have hmm : (n : Int) ≤ 300 ∧ m = n ∨ (300 : Int) < n ∧ m = 300 := by omega
    clear hq0
    rcases hmm with ⟨hle, rfl⟩ | ⟨hle, rfl⟩
    · have hmc : (m : Int) ≤ c := by omega
      have h300 : m ≤ 300 := by omega
      go_enter Try.func8, Try.ntmps8
      go_upto_region 1 with fail
      rw [EW.out]
      go_upto_region 4 with (go_at_call 15; refine (bytes_n D (d.take 300) _ c _ LM.out (HS.out.take 300) (by rw [LM.out]; omega)).mono ?_; rintro e w2 ⟨A2, c2, rfl, ho, hb⟩; have HST2 := Lib.hid (HST.out.below hb); have HO := Lib.hid ho; clear ho hb; have c8 : w2.cell? ⟨w.heap.size, 8, none⟩ = some (.slice D m c) := HST2.out.b0.cell 8; have f8 := HST2.out.b0.free 8; rw [LM.out])
      have hf := HST2.out.set 8 (.slice A2 m c2)
      have ho := own_set8 HST2.out HO.out 8 (.slice A2 m c2)
      have HOW := Lib.hid (ho.base HST.out.bel.size)
      have HF := Lib.hid hf
      clear x0 x1 x2 x3 x4 x5 x6 x7 x8 c8 f8 hf ho HST2 HO HST HS
      generalize w2.setCell ⟨w.heap.size, 8, none⟩ (.slice A2 m c2) = W2 at *
      obtain ⟨x0, x1, x2, x3, x4, x5, x6, x7, x8⟩ := (show Blk W2 w.heap.size 26 (segV fr to_ sq ak fl wi ur gr A2 m c2) from HF.out.b0).cells9
      obtain ⟨y0, y1, y2, y3, y4, y5, y6, y7, y8⟩ := HF.out.b1.cells9
      obtain ⟨z0, z1, z2, z3, z4, z5, z6, z7, z8⟩ := HF.out.b1.frees9
      have st := HF.out.b1.store9 (.int .i64 fr) (.int .i64 to_) (.int .u32 sq) (.int .u32 ak) (.int .i64 fl) (.int .i64 wi) (.int .i64 ur) (.int .i64 gr) (.slice A2 m c2)
      have HR := Lib.hid (below_grown HF.out.bel st.2 (Nat.le_refl _) (by omega))
      have HOR := Lib.hid (HOW.out.grown HF.out.b1 (by decide) st.2)
      have HK := Lib.hid st.1
      clear st
      go_wp2_with fail
      generalize World.setCell _ _ (Value.slice A2 m c2) = w5 at HK HR HOR ⊢
      obtain ⟨d0, d1, d2, d3, d4, d5, d6, d7, d8⟩ := HK.out.cells9
      have FIN : Hid (FewR fr to_ sq ak fl wi ur gr d w (.returned (.agg (segV fr to_ sq ak fl wi ur gr A2 m c2))) w5) := ⟨A2, c2, by rw [EF.out, LM.out], by rw [EF.out]; exact HOR.out, HR.out⟩
      exact bodyPost_ret (v := .agg (segV fr to_ sq ak fl wi ur gr A2 m c2)) (by simp [results, Try.results8, go_sem, d0, d1, d2, d3, d4, d5, d6, d7, d8]) rfl FIN.out
    · have hmc : (300 : Int) ≤ c := by omega
      go_enter Try.func8, Try.ntmps8
      go_upto_region 1 with fail
      rw [EW.out]
      go_upto_region 4 with (go_at_call 15; refine (bytes_n D (d.take 300) _ c _ LM.out (HS.out.take 300) (by rw [LM.out]; omega)).mono ?_; rintro e w2 ⟨A2, c2, rfl, ho, hb⟩; have HST2 := Lib.hid (HST.out.below hb); have HO := Lib.hid ho; clear ho hb; have c8 : w2.cell? ⟨w.heap.size, 8, none⟩ = some (.slice D n c) := HST2.out.b0.cell 8; have f8 := HST2.out.b0.free 8; rw [LM.out])
      have hf := HST2.out.set 8 (.slice A2 300 c2)
      have ho := own_set8 HST2.out HO.out 8 (.slice A2 300 c2)
      have HOW := Lib.hid (ho.base HST.out.bel.size)
      have HF := Lib.hid hf
      clear x0 x1 x2 x3 x4 x5 x6 x7 x8 c8 f8 hf ho HST2 HO HST HS
      generalize w2.setCell ⟨w.heap.size, 8, none⟩ (.slice A2 300 c2) = W2 at *
      obtain ⟨x0, x1, x2, x3, x4, x5, x6, x7, x8⟩ := (show Blk W2 w.heap.size 26 (segV fr to_ sq ak fl wi ur gr A2 300 c2) from HF.out.b0).cells9
      obtain ⟨y0, y1, y2, y3, y4, y5, y6, y7, y8⟩ := HF.out.b1.cells9
      obtain ⟨z0, z1, z2, z3, z4, z5, z6, z7, z8⟩ := HF.out.b1.frees9
      have st := HF.out.b1.store9 (.int .i64 fr) (.int .i64 to_) (.int .u32 sq) (.int .u32 ak) (.int .i64 fl) (.int .i64 wi) (.int .i64 ur) (.int .i64 gr) (.slice A2 300 c2)
      have HR := Lib.hid (below_grown HF.out.bel st.2 (Nat.le_refl _) (by omega))
      have HOR := Lib.hid (HOW.out.grown HF.out.b1 (by decide) st.2)
      have HK := Lib.hid st.1
      clear st
      go_wp2_with fail
      generalize World.setCell _ _ (Value.slice A2 300 c2) = w5 at HK HR HOR ⊢
      obtain ⟨d0, d1, d2, d3, d4, d5, d6, d7, d8⟩ := HK.out.cells9
      have FIN : Hid (FewR fr to_ sq ak fl wi ur gr d w (.returned (.agg (segV fr to_ sq ak fl wi ur gr A2 300 c2))) w5) := ⟨A2, c2, by rw [EF.out, LM.out], by rw [EF.out]; exact HOR.out, HR.out⟩
      exact bodyPost_ret (v := .agg (segV fr to_ sq ak fl wi ur gr A2 300 c2)) (by simp [results, Try.results8, go_sem, d0, d1, d2, d3, d4, d5, d6, d7, d8]) rfl FIN.out
end Go.Proofs.Ytpnfdnnfhmecjaa
