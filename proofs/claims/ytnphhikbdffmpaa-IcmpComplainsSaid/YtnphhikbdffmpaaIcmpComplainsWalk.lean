/-
  The walk of the law IcmpComplains.
-/
import Derived.Test.YtnphhikbdffmpaaIcmp14
namespace Go.Proofs.Ytnphhikbdffmpaa
open Go.RowKit
set_option linter.unusedVariables false

set_option maxHeartbeats 16000000 in
set_option maxRecDepth 100000 in
theorem icmpComplains_walk (me : Int) (code : Int) (id at_ life kind : Int) (wh mo : Bool) (f t : Int) (D : Option Addr) (bs : List UInt8) (d : Nat) (mk mc mr : Int) (mD : Option Addr) (mbs : List UInt8) (md : Nat) (asks : Bool) (w : World)
    (f0 : 0 ≤ f) (f1 : f < 4294967296) (t0 : 0 ≤ t) (t1 : t < 4294967296) (r0 : 0 ≤ mr) (r1 : mr < 4294967296) (hs : Sl w D d bs) (hm : Sl w mD md mbs) :
    Calls Try.prog 5 #[.int .u32 me, .int .i64 code, .agg (packet id at_ life kind wh mo f t D bs.length d), .agg #[.int .i64 mk, .int .i64 mc, .int .u32 mr, .slice mD mbs.length md], .bool asks] w fun e w' => e = .returned (.bool true) ∧ Below w.heap.size w w' := by
  have hb1 : Below w.heap.size w ((w.alloc (.cells (packet id at_ life kind wh mo f t D bs.length d) 41)).alloc (.cells #[.int .i64 mk, .int .i64 mc, .int .u32 mr, .slice mD mbs.length md] 25)) := ((Below.refl _ _).alloc (Nat.le_refl _) _).alloc (by simp) _
  have hbx := blk_old (blk_new w 41 (packet id at_ life kind wh mo f t D bs.length d)) (.cells #[.int .i64 mk, .int .i64 mc, .int .u32 mr, .slice mD mbs.length md] 25)
  have hbm := blk_new (w.alloc (.cells (packet id at_ life kind wh mo f t D bs.length d) 41)) 25 #[.int .i64 mk, .int .i64 mc, .int .u32 mr, .slice mD mbs.length md]
  have hG : (w.alloc (.cells (packet id at_ life kind wh mo f t D bs.length d) 41)).heap.size = w.heap.size + 1 := by simp
  rw [hG] at hbm
  clear hG
  replace hs := hs.below hb1
  have HM := Lib.hid hm
  have lF := fewL_le bs
  have lM := fewL_le mbs
  clear hm
  go_enter Try.func5, Try.ntmps5
  go_wp2_with fail
  generalize (w.alloc (.cells (packet id at_ life kind wh mo f t D bs.length d) 41)).alloc (.cells #[.int .i64 mk, .int .i64 mc, .int .u32 mr, .slice mD mbs.length md] 25) = w1 at *
  refine (few_any D bs _ d _ rfl hs).mono ?_
  rintro e w2 ⟨X1, y1, rfl, ho1, hb2⟩
  replace hbx := hbx.below hb2 hbx.lt
  replace hbm := hbm.below hb2 hbm.lt
  replace ho1 := ho1.base hb1.size
  replace hb1 := hb1.trans (hb2.mono hb1.size)
  clear hs hb2
  generalize fewL bs = F at *
  obtain ⟨n1, E1⟩ : ∃ z, Hid (F.length = z) := ⟨_, rfl⟩
  rw [E1.out]
  obtain ⟨c0, c1, c2, c3, c4, c5, c6, c7, c8⟩ := hbx.cells9
  have f8 := hbx.free 8
  have hbx2 : Blk (w2.setCell ⟨w.heap.size, 8, none⟩ (.slice X1 n1 y1)) w.heap.size 41 (packet id at_ life kind wh mo f t X1 n1 y1) := hbx.set 8 _
  have hbm2 := hbm.far (p := ⟨w.heap.size, 8, none⟩) (by simp) (.slice X1 n1 y1)
  have ho2 := ho1.past hbx (by decide) 8 (.slice X1 n1 y1)
  have hb2 := hb1.setCell (p := ⟨w.heap.size, 8, none⟩) (Nat.le_refl _) (.slice X1 n1 y1)
  obtain ⟨GP, EGP⟩ : ∃ z, Hid (w.heap.size = z) := ⟨_, rfl⟩
  cases asks
  case' false =>
    go_wp2_with fail
    generalize w2.setCell ⟨w.heap.size, 8, none⟩ (.slice X1 n1 y1) = w6 at *
    have lD : F.length ≤ 1481 := by omega
    have HEN := E1
    clear E1 hbx hbm ho1 hb1 hbm2 c0 c1 c2 c3 c4 c5 c6 c7 c8 f8 lF lM
    have hbx6 := hbx2
    have ho6 := ho2
    have hb6 := hb2
    clear hbx2 ho2 hb2
    obtain ⟨X5, hq⟩ : ∃ z, z = X1 := ⟨_, rfl⟩
    subst hq
    obtain ⟨y5, hq⟩ : ∃ z, z = y1 := ⟨_, rfl⟩
    subst hq
    obtain ⟨n, hq⟩ : ∃ z, z = n1 := ⟨_, rfl⟩
    subst hq
    obtain ⟨data, hq⟩ : ∃ z, z = F := ⟨_, rfl⟩
    subst hq
  case' true =>
    go_wp2_with fail
    generalize w2.setCell ⟨w.heap.size, 8, none⟩ (.slice X1 n1 y1) = w3 at *
    obtain ⟨m0, m1, m2, m3⟩ := hbm2.cells4
    have nPM : w.heap.size + 1 ≠ w.heap.size := by omega
    have fl8 := fun (W : World) (X : Option Addr) (n y : Nat) => field8 7 0 9 1 false false 0 0 X n y W
    go_region_held3 (fun w' => w'.cell? ⟨w.heap.size + 1, 2, none⟩ = some (.int .u32 mr) ∧ w'.cell? ⟨w.heap.size + 1, 3, none⟩ = some (.slice mD mbs.length md))
      ((refine ⟨?_, ?_⟩
        · first | (with_reducible assumption) | ((with_reducible refine cell_set_far ?_ nPM); exact hbm5.cell 2) | (exact hbm5.cell 2) | (exact hbm4.cell 2) | (exact hbm2.cell 2)
        · first | (with_reducible assumption) | ((with_reducible refine cell_set_far ?_ nPM); exact hbm5.cell 3) | (exact hbm5.cell 3) | (exact hbm4.cell 3) | (exact hbm2.cell 3)))
      (first
        | (go_at_call 7
           refine (few_any mD mbs _ md _ rfl ((HM.out.below hb2).drawn ⟨1, rfl⟩)).mono ?_
           rintro e w4 ⟨X4, y4, rfl, ho4, hb4⟩
           have hbm4 : Blk w4 (w.heap.size + 1) 25 #[.int .i64 mk, .int .i64 mc, .int .u32 mr, .slice mD mbs.length md] := hbm2.below (w' := w4) (B := w3.heap.size) ⟨hb4.os, hb4.tape, hb4.output, hb4.size, hb4.block⟩ hbm2.lt
           have hbx4 : Blk w4 w.heap.size 41 (packet id at_ life kind wh mo f t X1 n1 y1) := hbx2.below (w' := w4) (B := w3.heap.size) ⟨hb4.os, hb4.tape, hb4.output, hb4.size, hb4.block⟩ hbx2.lt
           have hbb4 : Below w.heap.size w w4 := hb2.trans (Below.mono (B := w3.heap.size) ⟨hb4.os, hb4.tape, hb4.output, hb4.size, hb4.block⟩ hb2.size)
           clear hb4)
        | (go_at_call 15
           refine (echo_any 0 0 0 0 mr X4 (fewL mbs) _ y4 _ rfl r0 r1 ho4.sl).mono ?_
           rintro e w5 ⟨X5, y5, rfl, ho5, hb5⟩
           have hbm5 := hbm4.below hb5 hbm4.lt
           have hbx5 := hbx4.below hb5 hbx4.lt
           have hbb5 := hbb4.trans (hb5.mono hbb4.size)
           have hoo5 := ho5.base hbb4.size
           obtain ⟨_, _, _, _, _, _, _, _, p8⟩ := hbx5.cells9
           have pf := hbx5.free 8
           clear hb5 ho5))
    clear hbx hbm ho1 hb1 c0 c1 c2 c3 c4 c5 c6 c7 c8 f8 hbx2 hbm2 ho2 hb2 m0 m1 m2 m3 fl8 hbm4 hbx4 hbb4 ho4 hbm5 p8 pf E1
    have lD : (outB 8 0 mr (fewL mbs)).length ≤ 1481 := by
      unfold outB
      split
      · rw [msg_length]; omega
      · simp
    obtain ⟨n, HEN⟩ : ∃ z, Hid ((outB 8 0 mr (fewL mbs)).length = z) := ⟨_, rfl⟩
    rw [HEN.out]
    have hbx6 : Blk (w5.setCell ⟨w.heap.size, 8, none⟩ (.slice X5 n y5)) w.heap.size 41 (packet id at_ life kind wh mo f t X5 n y5) := hbx5.set 8 _
    have ho6 := hoo5.past hbx5 (by decide) 8 (.slice X5 n y5)
    have hb6 := hbb5.setCell (p := ⟨w.heap.size, 8, none⟩) (Nat.le_refl _) (.slice X5 n y5)
    clear hbx5 hoo5 hbb5
    generalize outB 8 0 mr (fewL mbs) = data at *
    obtain ⟨e0, e1, e2, e3, e4, e5, e6, e7, e8⟩ := hbx6.cells9
    generalize w5.setCell ⟨w.heap.size, 8, none⟩ (.slice X5 n y5) = w6 at *
    go_wp2_with fail
    clear e0 e1 e2 e3 e4 e5 e6 e7 e8 lF lM
  all_goals
    refine (complain_any me code id at_ life kind wh mo f t X5 data n y5 _ HEN.out ho6.sl (by omega) f0 f1 t0 t1).mono ?_
    rintro e w7 ⟨X6, y6, rfl, ho7, hb7⟩
    obtain ⟨zE, HZE⟩ : ∃ z : Int, Hid (cplErr me code id at_ life kind f t data = z) := ⟨_, rfl⟩
    rw [HZE.out]
    obtain ⟨v0, HV0⟩ : ∃ z, Hid ((if zE = 0 then id else 0) = z) := ⟨_, rfl⟩
    obtain ⟨v2, HV2⟩ : ∃ z : Int, Hid ((if zE = 0 then 64 else 0) = z) := ⟨_, rfl⟩
    obtain ⟨v3, HV3⟩ : ∃ z : Int, Hid ((if zE = 0 then 1 else 0) = z) := ⟨_, rfl⟩
    obtain ⟨v6, HV6⟩ : ∃ z, Hid ((if zE = 0 then me else 0) = z) := ⟨_, rfl⟩
    obtain ⟨v7, HV7⟩ : ∃ z, Hid ((if zE = 0 then f else 0) = z) := ⟨_, rfl⟩
    obtain ⟨out, HOUT⟩ : ∃ z, Hid (cplOut me code id at_ life kind wh mo f t data = z) := ⟨_, rfl⟩
    rw [HOUT.out] at ho7 ⊢
    obtain ⟨ol, HOL⟩ : ∃ z, Hid (out.length = z) := ⟨_, rfl⟩
    rw [HV0.out, HV2.out, HV3.out, HV6.out, HV7.out, HOL.out]
    replace hbx6 := blk_old (hbx6.below hb7 hbx6.lt) (.cells (packet v0 0 v2 v3 false false v6 v7 X6 ol y6) 41)
    have hba := (Below.refl w7.heap.size w7).alloc (Nat.le_refl _) (.cells (packet v0 0 v2 v3 false false v6 v7 X6 ol y6) 41)
    have hp7 := blk_new w7 41 (packet v0 0 v2 v3 false false v6 v7 X6 ol y6)
    replace ho6 := (ho6.keep hb7).keep hba
    replace ho7 := (ho7.base hb6.size).keep hba
    replace hb6 := (hb6.trans (hb7.mono hb6.size)).trans (hba.mono (Nat.le_trans hb6.size hb7.size))
    clear hb7 hba
    obtain ⟨e0, e1, e2, e3, e4, e5, e6, e7, e8⟩ := hbx6.cells9
    go_wp2_with fail
    generalize w7.alloc (.cells (packet v0 0 v2 v3 false false v6 v7 X6 ol y6) 41) = w8 at *
    generalize w7.heap.size = gp at *
    clear e0 e1 e2 e3 e4 e5 e6 e7 e8
    refine (plain_any id at_ life kind wh mo f t X5 n y5 _).mono ?_
    rintro e w9 ⟨rfl, hb7⟩
    replace hp7 := hp7.below hb7 hp7.lt
    replace ho6 := ho6.keep hb7
    replace ho7 := ho7.keep hb7
    replace hb6 := hb6.trans (hb7.mono hb6.size)
    clear hb7 hbx6
    go_wp2_with fail
    refine (rcomplain_any me code id at_ life kind wh mo f t X5 data n y5 _ HEN.out ho6.sl (by omega) f0 f1 t0 t1).mono ?_
    rintro e w10 ⟨X8, y8, rfl, ho10, hb7⟩
    rw [HZE.out]
    rw [HOUT.out] at ho10 ⊢
    rw [HV0.out, HV2.out, HV3.out, HV6.out, HV7.out, HOL.out]
    replace hp7 := blk_old (hp7.below hb7 hp7.lt) (.cells (packet v0 0 v2 v3 false false v6 v7 X8 ol y8) 45)
    have hba := (Below.refl w10.heap.size w10).alloc (Nat.le_refl _) (.cells (packet v0 0 v2 v3 false false v6 v7 X8 ol y8) 45)
    have hq7 := blk_new w10 45 (packet v0 0 v2 v3 false false v6 v7 X8 ol y8)
    replace ho7 := (ho7.keep hb7).keep hba
    replace ho10 := (ho10.base hb6.size).keep hba
    replace hb6 := (hb6.trans (hb7.mono hb6.size)).trans (hba.mono (Nat.le_trans hb6.size hb7.size))
    have hst : PQ w gp w10.heap.size (packet v0 0 v2 v3 false false v6 v7 X6 ol y6) (packet v0 0 v2 v3 false false v6 v7 X8 ol y8) X6 X8 y6 y8 out _ := ⟨hp7, hq7, ho7, ho10, hb6⟩
    clear hb7 hba hp7 hq7 ho7 ho10 hb6 ho6
    go_wp2_with fail
    generalize w10.alloc (.cells (packet v0 0 v2 v3 false false v6 v7 X8 ol y8) 45) = w11 at *
    generalize w10.heap.size = gq at *
    go_region_held3 (fun w' => w'.cell? ⟨gp, 0, none⟩ = some (.int .i64 v0) ∧ w'.cell? ⟨gp, 1, none⟩ = some (.int .i64 0) ∧ w'.cell? ⟨gp, 2, none⟩ = some (.int .i64 v2) ∧ w'.cell? ⟨gp, 3, none⟩ = some (.int .i64 v3) ∧ w'.cell? ⟨gp, 4, none⟩ = some (.bool false) ∧ w'.cell? ⟨gp, 5, none⟩ = some (.bool false) ∧ w'.cell? ⟨gp, 6, none⟩ = some (.int .u32 v6) ∧ w'.cell? ⟨gp, 7, none⟩ = some (.int .u32 v7) ∧ w'.cell? ⟨gp, 8, none⟩ = some (.slice X6 ol y6) ∧ w'.cell? ⟨gq, 0, none⟩ = some (.int .i64 v0) ∧ w'.cell? ⟨gq, 1, none⟩ = some (.int .i64 0) ∧ w'.cell? ⟨gq, 2, none⟩ = some (.int .i64 v2) ∧ w'.cell? ⟨gq, 3, none⟩ = some (.int .i64 v3) ∧ w'.cell? ⟨gq, 4, none⟩ = some (.bool false) ∧ w'.cell? ⟨gq, 5, none⟩ = some (.bool false) ∧ w'.cell? ⟨gq, 6, none⟩ = some (.int .u32 v6) ∧ w'.cell? ⟨gq, 7, none⟩ = some (.int .u32 v7) ∧ w'.cell? ⟨gq, 8, none⟩ = some (.slice X8 ol y8))
      ((refine ⟨?_, ?_, ?_, ?_, ?_, ?_, ?_, ?_, ?_, ?_, ?_, ?_, ?_, ?_, ?_, ?_, ?_, ?_⟩
        · first | (with_reducible assumption) | (exact hst3.p.cell 0) | (exact hst2.p.cell 0) | (exact hst1.p.cell 0) | (exact hst.p.cell 0)
        · first | (with_reducible assumption) | (exact hst3.p.cell 1) | (exact hst2.p.cell 1) | (exact hst1.p.cell 1) | (exact hst.p.cell 1)
        · first | (with_reducible assumption) | (exact hst3.p.cell 2) | (exact hst2.p.cell 2) | (exact hst1.p.cell 2) | (exact hst.p.cell 2)
        · first | (with_reducible assumption) | (exact hst3.p.cell 3) | (exact hst2.p.cell 3) | (exact hst1.p.cell 3) | (exact hst.p.cell 3)
        · first | (with_reducible assumption) | (exact hst3.p.cell 4) | (exact hst2.p.cell 4) | (exact hst1.p.cell 4) | (exact hst.p.cell 4)
        · first | (with_reducible assumption) | (exact hst3.p.cell 5) | (exact hst2.p.cell 5) | (exact hst1.p.cell 5) | (exact hst.p.cell 5)
        · first | (with_reducible assumption) | (exact hst3.p.cell 6) | (exact hst2.p.cell 6) | (exact hst1.p.cell 6) | (exact hst.p.cell 6)
        · first | (with_reducible assumption) | (exact hst3.p.cell 7) | (exact hst2.p.cell 7) | (exact hst1.p.cell 7) | (exact hst.p.cell 7)
        · first | (with_reducible assumption) | (exact hst3.p.cell 8) | (exact hst2.p.cell 8) | (exact hst1.p.cell 8) | (exact hst.p.cell 8)
        · first | (with_reducible assumption) | (exact hst3.q.cell 0) | (exact hst2.q.cell 0) | (exact hst1.q.cell 0) | (exact hst.q.cell 0)
        · first | (with_reducible assumption) | (exact hst3.q.cell 1) | (exact hst2.q.cell 1) | (exact hst1.q.cell 1) | (exact hst.q.cell 1)
        · first | (with_reducible assumption) | (exact hst3.q.cell 2) | (exact hst2.q.cell 2) | (exact hst1.q.cell 2) | (exact hst.q.cell 2)
        · first | (with_reducible assumption) | (exact hst3.q.cell 3) | (exact hst2.q.cell 3) | (exact hst1.q.cell 3) | (exact hst.q.cell 3)
        · first | (with_reducible assumption) | (exact hst3.q.cell 4) | (exact hst2.q.cell 4) | (exact hst1.q.cell 4) | (exact hst.q.cell 4)
        · first | (with_reducible assumption) | (exact hst3.q.cell 5) | (exact hst2.q.cell 5) | (exact hst1.q.cell 5) | (exact hst.q.cell 5)
        · first | (with_reducible assumption) | (exact hst3.q.cell 6) | (exact hst2.q.cell 6) | (exact hst1.q.cell 6) | (exact hst.q.cell 6)
        · first | (with_reducible assumption) | (exact hst3.q.cell 7) | (exact hst2.q.cell 7) | (exact hst1.q.cell 7) | (exact hst.q.cell 7)
        · first | (with_reducible assumption) | (exact hst3.q.cell 8) | (exact hst2.q.cell 8) | (exact hst1.q.cell 8) | (exact hst.q.cell 8)))
      (first
        | (go_at_call 18
           refine (plain_any v0 0 v2 v3 false false v6 v7 X6 ol y6 _).mono ?_
           rintro e w12 ⟨rfl, hb12⟩
           have hst1 := hst.drew.below hb12
           clear hb12)
        | (go_at_call 19
           refine (samep_any v0 0 v2 v3 false false v6 v7 X6 y6 X8 y8 ol out HOL.out _ hst1.hx.bs hst1.hy.bs).mono ?_
           rintro e w13 ⟨rfl, hb13⟩
           have hst2 := hst1.below hb13
           clear hb13)
        | (go_at_call 14
           refine (works_any _).mono ?_
           rintro e w14 ⟨rfl, hb14⟩
           have hst3 := hst2.below hb14
           clear hb14))
    go_wp2_with fail
    go_ret
    exact ⟨rfl, hst3.bel⟩
end Go.Proofs.Ytnphhikbdffmpaa
