/-
  The walks of packet, fits and Age.
-/
import Derived.Test.YtpdkoooecnmjjaaFragN
import Derived.Test.YtpdkoooecnmjjaaIpBuild2
namespace Go.Proofs.Ytpdkoooecnmjjaa
open Go.RowKit
set_option linter.unusedVariables false

/-- A packet that has these bytes, in a row of its own. -/
def PackR (bs : List UInt8) (w : World) (e : Ending) (w' : World) : Prop :=
  ∃ (a b c d : Int) (x : Bool) (f t : Int) (D : Option Addr) (q : Nat), e = .returned (.agg (pkV a b c d x false f t D bs.length q)) ∧ Own w' w.heap.size D q bs ∧ Below w.heap.size w w'
set_option maxHeartbeats 8000000 in
set_option maxRecDepth 100000 in
theorem packet_any {w : World} {B : Nat} {x : WX} (o : WAt w B x) (h : Nat) (hh : x.head = some h) (hd : x.data.length ≤ 140737488355328) :
    Calls Try.prog 20 #[PV x.g] w (PackR x.data w) := by
  obtain ⟨hB, a, b, c, d, e0, f0, g0, i0, D, n, q, hbh⟩ := o.head h hh
  have hb1 : Below w.heap.size w (w.alloc (.cells (pkV 0 0 0 0 false false 0 0 none 0 0) 33)) := (Below.refl _ _).alloc (Nat.le_refl _) _
  have hr := blk_new w 33 (pkV 0 0 0 0 false false 0 0 none 0 0)
  have o1 := o.below hb1
  have hbh1 := hbh.below hb1 hbh.lt
  have HB1 := Lib.hid hb1
  have HR := Lib.hid hr
  have HH := Lib.hid hh
  have HD := Lib.hid hd
  have LG := Lib.hid o.blk.lt
  have LH := Lib.hid hbh.lt
  obtain ⟨dl, EDL⟩ : ∃ z, Hid (x.data.length = z) := ⟨_, rfl⟩
  obtain ⟨g, EG⟩ : ∃ z, Hid (x.g = z) := ⟨_, rfl⟩
  rw [EG.out]
  clear o hb1 hr hbh hh hd hB
  go_enter Try.func20, Try.ntmps20
  go_upto_region 1 with fail
  generalize w.alloc (.cells (pkV 0 0 0 0 false false 0 0 none 0 0) 33) = w1 at *
  obtain ⟨gr, EGR⟩ : ∃ z, Hid (w.heap.size = z) := ⟨_, rfl⟩
  rw [EGR.out] at HR HB1 LG LH ⊢
  have c7 : w1.cell? ⟨g, 7, none⟩ = some (PV h) := by have h9 := o1.blk.cell 7; rw [EG.out] at h9; rw [h9]; show some (hdV x.head) = _; rw [HH.out]; rfl
  have c8 : w1.cell? ⟨g, 8, none⟩ = some (.slice x.dA dl x.dc) := by have h9 := o1.blk.cell 8; rw [EG.out] at h9; rw [h9]; show some (Value.slice x.dA x.data.length x.dc) = _; rw [EDL.out]
  obtain ⟨h0, h1, h2, h3, h4, h5, h6, h7, h8⟩ := hbh1.cells9
  have hm : Blk (w1.alloc (.cells #[.int .i64 a, .int .i64 b, .int .i64 c, .int .i64 d, .bool e0, .bool f0, .int .u32 g0, .int .u32 i0, .slice D n q] 33)) w1.heap.size 33 (pkV a b c d e0 f0 g0 i0 D n q) := blk_new _ _ _
  have hb2 : Below w1.heap.size w1 (w1.alloc (.cells #[.int .i64 a, .int .i64 b, .int .i64 c, .int .i64 d, .bool e0, .bool f0, .int .u32 g0, .int .u32 i0, .slice D n q] 33)) := (Below.refl _ _).alloc (Nat.le_refl _) _
  have HST := Lib.hid hm
  have HB2 := Lib.hid hb2
  have HO1 := Lib.hid o1
  clear hm hb2 o1 hbh1
  go_upto_region 2 with fail
  clear h0 h1 h2 h3 h4 h5 h6 h7 h8 c7 c8
  generalize w1.alloc (.cells #[.int .i64 a, .int .i64 b, .int .i64 c, .int .i64 d, .bool e0, .bool f0, .int .u32 g0, .int .u32 i0, .slice D n q] 33) = w2 at HST HB2 ⊢
  have o2 := HO1.out.below HB2.out
  have c8 : w2.cell? ⟨g, 8, none⟩ = some (.slice x.dA dl x.dc) := by have h9 := o2.blk.cell 8; rw [EG.out] at h9; rw [h9]; show some (Value.slice x.dA x.data.length x.dc) = _; rw [EDL.out]
  have CL := Lib.hid (clone_n x.dA x.data dl x.dc w2 EDL.out o2.data.sl HD.out)
  have HR2 := Lib.hid (HR.out.below HB2.out HR.out.lt)
  have HBB := Lib.hid (HB1.out.trans (HB2.out.mono (by have := HR.out.lt; omega)))
  have HNE : Hid (w1.heap.size ≠ gr) := by have := HR.out.lt; show _ ≠ _; omega
  have HGR : Hid (gr ≤ w1.heap.size) := Nat.le_of_lt HR.out.lt
  obtain ⟨gm, EGM⟩ : ∃ z, Hid (w1.heap.size = z) := ⟨_, rfl⟩
  rw [EGM.out] at HST HNE HGR ⊢
  clear o2
  go_wp2_with fail
  refine CL.out.mono ?_
  rintro e w3 ⟨D', q', rfl, ho, hb⟩
  rw [EDL.out]
  have hm3 := HST.out.below hb HST.out.lt
  have hr3 := HR2.out.below hb HR2.out.lt
  have m5 : w3.cell? ⟨gm, 5, none⟩ = some (.bool f0) := hm3.cell 5
  have m8 : w3.cell? ⟨gm, 8, none⟩ = some (.slice D n q) := hm3.cell 8
  have fm5 := hm3.free 5
  have fm8 := hm3.free 8
  have hm4 : Blk (w3.setCell ⟨gm, 5, none⟩ (.bool false)) gm 33 (pkV a b c d e0 false g0 i0 D n q) := hm3.set 5 (.bool false)
  have hm5 : Blk ((w3.setCell ⟨gm, 5, none⟩ (.bool false)).setCell ⟨gm, 8, none⟩ (.slice D' dl q')) gm 33 (pkV a b c d e0 false g0 i0 D' dl q') := hm4.set 8 (.slice D' dl q')
  have hr5 := (hr3.far (p := ⟨gm, 5, none⟩) (fun e => HNE.out e.symm) (.bool false)).far (p := ⟨gm, 8, none⟩) (fun e => HNE.out e.symm) (.slice D' dl q')
  have ho5 := (ho.past hm3 (by decide) 5 (.bool false)).past hm4 (by decide) 8 (.slice D' dl q')
  have hb5 := ((HBB.out.trans (hb.mono (by have := HBB.out.size; have := EGR.out; omega))).setCell (p := ⟨gm, 5, none⟩) HGR.out (.bool false)).setCell (p := ⟨gm, 8, none⟩) HGR.out (.slice D' dl q')
  have HM5 := Lib.hid hm5
  have HR5 := Lib.hid hr5
  have HO5 := Lib.hid (ho5.base (B' := gr) (by have := HBB.out.size; have := EGR.out; omega))
  have HB5 := Lib.hid hb5
  clear hm3 hr3 hm4 hm5 hr5 ho5 hb5 ho hb c8
  go_upto_region 3 with fail
  clear m5 m8 fm5 fm8
  generalize (w3.setCell ⟨gm, 5, none⟩ (.bool false)).setCell ⟨gm, 8, none⟩ (.slice D' dl q') = w4 at HM5 HR5 HO5 HB5 ⊢
  obtain ⟨h0, h1, h2, h3, h4, h5, h6, h7, h8⟩ := HM5.out.cells9
  obtain ⟨z0, z1, z2, z3, z4, z5, z6, z7, z8⟩ := HR5.out.cells9
  obtain ⟨f0', f1', f2', f3', f4', f5', f6', f7', f8'⟩ := HR5.out.frees9
  have st := HR5.out.store9 (.int .i64 a) (.int .i64 b) (.int .i64 c) (.int .i64 d) (.bool e0) (.bool false) (.int .u32 g0) (.int .u32 i0) (.slice D' dl q')
  have HST2 := Lib.hid st.1
  have HO6 := Lib.hid (HO5.out.grown HR5.out (by decide) st.2)
  have HB6 := Lib.hid (below_grown HB5.out st.2 (by have := EGR.out; omega) (Nat.le_refl _))
  clear st
  go_wp2_with fail
  clear z0 z1 z2 z3 z4 z5 z6 z7 z8 f0' f1' f2' f3' f4' f5' f6' f7' f8' h0 h1 h2 h3 h4 h5 h6 h7 h8
  generalize World.setCell _ _ (Value.slice D' dl q') = w5 at HST2 HO6 HB6 ⊢
  obtain ⟨d0, d1, d2, d3, d4, d5, d6, d7, d8⟩ := HST2.out.cells9
  exact bodyPost_ret (v := .agg (pkV a b c d e0 false g0 i0 D' dl q')) (by simp [results, Try.results20, go_sem, d0, d1, d2, d3, d4, d5, d6, d7, d8]) rfl ⟨a, b, c, d, e0, g0, i0, D', q', by rw [EDL.out], by rw [EGR.out]; exact HO6.out, by rw [EGR.out]; exact HB6.out⟩

def fitsE (id at_ life kind : Int) : Int := if rightP id at_ life kind then 0 else 2
set_option maxHeartbeats 8000000 in
set_option maxRecDepth 100000 in
theorem fits_any (id at_ life kind : Int) (wh mo : Bool) (f t : Int) (D : Option Addr) (n q : Nat) (w : World) :
    Calls Try.prog 13 #[.agg (pkV id at_ life kind wh mo f t D n q)] w fun e w' => e = .returned (.int .i64 (fitsE id at_ life kind)) ∧ Below w.heap.size w w' := by
  have hb1 : Below w.heap.size w (w.alloc (.cells (pkV id at_ life kind wh mo f t D n q) 33)) := (Below.refl _ _).alloc (Nat.le_refl _) _
  have hbp := blk_new w 33 (pkV id at_ life kind wh mo f t D n q)
  have HB1 := Lib.hid hb1
  have BLD : Hid (∀ W : World, Calls Try.prog 23 #[.agg (packet id at_ life kind false false 0 0 none 0 0)] W fun e w' => ∃ X n x, e = .returned (.tuple #[.slice X n x, .int .i64 (fitsE id at_ life kind)]) ∧ Below W.heap.size W w') := by
    intro W
    unfold fitsE
    by_cases h : rightP id at_ life kind
    · rw [if_pos h]
      exact (ipbuild_any id at_ life kind false false 0 0 none [] 0 0 W rfl (Own.nil W 0).sl h (by omega) (by omega) (by omega) (by omega) (by omega)).mono fun _ _ ⟨X, x, h1, h2, h3⟩ => ⟨X, _, x, h1, h3⟩
    · rw [if_neg h]
      exact (ipbuild_arg id at_ life kind false false 0 0 none 0 0 W h).mono fun _ _ ⟨h1, h2⟩ => ⟨_, _, _, h1, h2⟩
  obtain ⟨z, EZ⟩ : ∃ z, Hid (fitsE id at_ life kind = z) := ⟨_, rfl⟩
  rw [EZ.out] at BLD ⊢
  clear hb1
  go_enter Try.func13, Try.ntmps13
  go_upto_region 1 with fail
  generalize w.alloc (.cells (pkV id at_ life kind wh mo f t D n q) 33) = w1 at *
  obtain ⟨x0, x1, x2, x3, x4, x5, x6, x7, x8⟩ := hbp.cells9
  clear hbp
  go_wp2_with fail
  refine (BLD.out _).mono ?_
  rintro e w2 ⟨X, n', x', rfl, hb⟩
  have HB2 := Lib.hid (HB1.out.trans (hb.mono HB1.out.size))
  clear hb
  go_wp2_with fail
  go_ret
  exact ⟨rfl, HB2.out⟩
end Go.Proofs.Ytpdkoooecnmjjaa
