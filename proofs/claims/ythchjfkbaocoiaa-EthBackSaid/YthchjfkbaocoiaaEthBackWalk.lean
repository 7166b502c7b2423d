/-
  The walk of the law EthBack.
-/
import Derived.Test.YthchjfkbaocoiaaEthM
namespace Go.Proofs.Ythchjfkbaocoiaa
open Go.RowKit
set_option linter.unusedVariables false

theorem ethB_cons (a0 a1 a2 a3 a4 a5 b0 b1 b2 b3 b4 b5 : UInt8) (k : Int) (d : List UInt8) : ethB [a0, a1, a2, a3, a4, a5] [b0, b1, b2, b3, b4, b5] k d = a0 :: a1 :: a2 :: a3 :: a4 :: a5 :: b0 :: b1 :: b2 :: b3 :: b4 :: b5 :: u8 (k / 256) :: u8 (k % 256) :: (d ++ List.replicate (46 - d.length) 0) := by
  unfold ethB
  simp
/-- What is read of what was built. -/
theorem back_read (a0 a1 a2 a3 a4 a5 b0 b1 b2 b3 b4 b5 : UInt8) (k : Int) (d : List UInt8) (k0 : 0 ≤ k) (k1 : k < 65536) (hd : d.length ≤ 1500) :
    readTo (ethB [a0, a1, a2, a3, a4, a5] [b0, b1, b2, b3, b4, b5] k d) = [a0, a1, a2, a3, a4, a5] ∧ readFr (ethB [a0, a1, a2, a3, a4, a5] [b0, b1, b2, b3, b4, b5] k d) = [b0, b1, b2, b3, b4, b5] ∧ readKind (ethB [a0, a1, a2, a3, a4, a5] [b0, b1, b2, b3, b4, b5] k d) = k ∧ readD (ethB [a0, a1, a2, a3, a4, a5] [b0, b1, b2, b3, b4, b5] k d) = d ++ List.replicate (46 - d.length) 0 ∧ readE (ethB [a0, a1, a2, a3, a4, a5] [b0, b1, b2, b3, b4, b5] k d) = 0 := by
  have hl := ethB_length [a0, a1, a2, a3, a4, a5] [b0, b1, b2, b3, b4, b5] k d rfl rfl
  have hk : okLen (ethB [a0, a1, a2, a3, a4, a5] [b0, b1, b2, b3, b4, b5] k d).length := by unfold okLen; omega
  have t0 := u8_toNat (k / 256) (by omega) (by omega)
  have t1 := u8_toNat (k % 256) (by omega) (by omega)
  refine ⟨?_, ?_, ?_, ?_, ?_⟩
  · rw [readTo, if_pos hk, ethB_cons]; rfl
  · rw [readFr, if_pos hk, ethB_cons]; rfl
  · rw [readKind, if_pos hk, ethB_cons]
    show 256 * ((u8 (k / 256)).toNat : Int) + ((u8 (k % 256)).toNat : Int) = k
    omega
  · rw [readD, if_pos hk, ethB_cons]; rfl
  · rw [readE, if_pos hk]

set_option maxHeartbeats 8000000 in
set_option maxRecDepth 100000 in
theorem ethBack_walk0 (a0 a1 a2 a3 a4 a5 b0 b1 b2 b3 b4 b5 : UInt8) (k : Int) (D : Option Addr) (d : List UInt8) (n c : Nat) (w : World) (k0 : 0 ≤ k) (k1 : k < 65536) (hn : d.length = n) (hs : Sl w D c d) :
    Calls Try.prog 7 #[.agg #[(.int .u8 (a0.toNat : Int)), (.int .u8 (a1.toNat : Int)), (.int .u8 (a2.toNat : Int)), (.int .u8 (a3.toNat : Int)), (.int .u8 (a4.toNat : Int)), (.int .u8 (a5.toNat : Int)), (.int .u8 (b0.toNat : Int)), (.int .u8 (b1.toNat : Int)), (.int .u8 (b2.toNat : Int)), (.int .u8 (b3.toNat : Int)), (.int .u8 (b4.toNat : Int)), (.int .u8 (b5.toNat : Int)), .int .u16 k, .slice D n c]] w fun e w' => e = .returned (.bool true) ∧ Below w.heap.size w w' := by
  have hb1 : Below w.heap.size w (w.alloc (.cells #[(.int .u8 (a0.toNat : Int)), (.int .u8 (a1.toNat : Int)), (.int .u8 (a2.toNat : Int)), (.int .u8 (a3.toNat : Int)), (.int .u8 (a4.toNat : Int)), (.int .u8 (a5.toNat : Int)), (.int .u8 (b0.toNat : Int)), (.int .u8 (b1.toNat : Int)), (.int .u8 (b2.toNat : Int)), (.int .u8 (b3.toNat : Int)), (.int .u8 (b4.toNat : Int)), (.int .u8 (b5.toNat : Int)), .int .u16 k, .slice D n c] 37)) := (Below.refl _ _).alloc (Nat.le_refl _) _
  have hbx := blk_new w 37 #[(.int .u8 (a0.toNat : Int)), (.int .u8 (a1.toNat : Int)), (.int .u8 (a2.toNat : Int)), (.int .u8 (a3.toNat : Int)), (.int .u8 (a4.toNat : Int)), (.int .u8 (a5.toNat : Int)), (.int .u8 (b0.toNat : Int)), (.int .u8 (b1.toNat : Int)), (.int .u8 (b2.toNat : Int)), (.int .u8 (b3.toNat : Int)), (.int .u8 (b4.toNat : Int)), (.int .u8 (b5.toNat : Int)), .int .u16 k, .slice D n c]
  replace hs := hs.below hb1
  have HN := Lib.hid hn
  obtain ⟨F, EF⟩ : ∃ F, Hid (fewL d = F) := ⟨_, rfl⟩
  have hfl := fewL_le d
  rw [EF.out] at hfl
  have FL := Lib.hid hfl
  obtain ⟨m, LF⟩ : ∃ m, Hid (F.length = m) := ⟨_, rfl⟩
  have EB := Lib.hid (fun (D : Option Addr) (c : Nat) (w : World) hs => ebuild_any [a0, a1, a2, a3, a4, a5] [b0, b1, b2, b3, b4, b5] k D F m c w rfl rfl k0 k1 LF.out hs)
  unfold EBuilt at EB
  simp only [frameV, List.map_cons, List.map_nil, bval, List.cons_append, List.nil_append] at EB
  clear hn hfl
  go_enter Try.func7, Try.ntmps7
  go_upto_region 1 with fail
  generalize w.alloc (.cells #[(.int .u8 (a0.toNat : Int)), (.int .u8 (a1.toNat : Int)), (.int .u8 (a2.toNat : Int)), (.int .u8 (a3.toNat : Int)), (.int .u8 (a4.toNat : Int)), (.int .u8 (a5.toNat : Int)), (.int .u8 (b0.toNat : Int)), (.int .u8 (b1.toNat : Int)), (.int .u8 (b2.toNat : Int)), (.int .u8 (b3.toNat : Int)), (.int .u8 (b4.toNat : Int)), (.int .u8 (b5.toNat : Int)), .int .u16 k, .slice D n c] 37) = w1 at *
  have HB := Lib.hid hb1
  have HX := Lib.hid hbx
  have HS := Lib.hid hs
  clear hb1 hbx hs
  go_wp2_with fail
  refine (works_any _).mono ?_
  rintro e w1b ⟨rfl, hbw⟩
  replace HX := Lib.hid (HX.out.below hbw HX.out.lt)
  replace HS := Lib.hid (HS.out.below hbw)
  replace HB := Lib.hid (HB.out.trans (hbw.mono HB.out.size))
  clear hbw
  obtain ⟨m0, m1, m2, m3, m4, m5, m6, m7, m8, m9, m10, m11, m12, m13⟩ := HX.out.cells14
  go_wp2_with fail
  refine (few_any (a0.toNat : Int) (a1.toNat : Int) (a2.toNat : Int) (a3.toNat : Int) (a4.toNat : Int) (a5.toNat : Int) (b0.toNat : Int) (b1.toNat : Int) (b2.toNat : Int) (b3.toNat : Int) (b4.toNat : Int) (b5.toNat : Int) k D d n c _ HN.out HS.out).mono ?_
  rintro e w2 ⟨D2, c2, rfl, ho, hb⟩
  rw [EF.out] at ho ⊢
  rw [LF.out]
  have hx2 := HX.out.below hb HX.out.lt
  have HB2 := Lib.hid (HB.out.trans (hb.mono HB.out.size))
  obtain ⟨r0, r1, r2, r3, r4, r5, r6, r7, r8, r9, r10, r11, r12, r13⟩ := hx2.cells14
  obtain ⟨f0, f1, f2, f3, f4, f5, f6, f7, f8, f9, f10, f11, f12, f13⟩ := hx2.frees14
  have st := hx2.store14 (.int .u8 (a0.toNat : Int)) (.int .u8 (a1.toNat : Int)) (.int .u8 (a2.toNat : Int)) (.int .u8 (a3.toNat : Int)) (.int .u8 (a4.toNat : Int)) (.int .u8 (a5.toNat : Int)) (.int .u8 (b0.toNat : Int)) (.int .u8 (b1.toNat : Int)) (.int .u8 (b2.toNat : Int)) (.int .u8 (b3.toNat : Int)) (.int .u8 (b4.toNat : Int)) (.int .u8 (b5.toNat : Int)) (.int .u16 k) (.slice D2 m c2)
  have HO2 := Lib.hid (((ho.base HB.out.size).grown hx2 (by decide) st.2))
  have HB3 := Lib.hid (below_grown HB2.out st.2 (Nat.le_refl _) (Nat.le_refl _))
  have HX3 := Lib.hid st.1
  clear ho hb hx2 st m0 m1 m2 m3 m4 m5 m6 m7 m8 m9 m10 m11 m12 m13 HX HB HB2 HS
  go_upto_region 4 with fail
  generalize ((((((((((((((w2).setCell ⟨w.heap.size, 0, none⟩ (.int .u8 (a0.toNat : Int))).setCell ⟨w.heap.size, 1, none⟩ (.int .u8 (a1.toNat : Int))).setCell ⟨w.heap.size, 2, none⟩ (.int .u8 (a2.toNat : Int))).setCell ⟨w.heap.size, 3, none⟩ (.int .u8 (a3.toNat : Int))).setCell ⟨w.heap.size, 4, none⟩ (.int .u8 (a4.toNat : Int))).setCell ⟨w.heap.size, 5, none⟩ (.int .u8 (a5.toNat : Int))).setCell ⟨w.heap.size, 6, none⟩ (.int .u8 (b0.toNat : Int))).setCell ⟨w.heap.size, 7, none⟩ (.int .u8 (b1.toNat : Int))).setCell ⟨w.heap.size, 8, none⟩ (.int .u8 (b2.toNat : Int))).setCell ⟨w.heap.size, 9, none⟩ (.int .u8 (b3.toNat : Int))).setCell ⟨w.heap.size, 10, none⟩ (.int .u8 (b4.toNat : Int))).setCell ⟨w.heap.size, 11, none⟩ (.int .u8 (b5.toNat : Int))).setCell ⟨w.heap.size, 12, none⟩ (.int .u16 k)).setCell ⟨w.heap.size, 13, none⟩ (.slice D2 m c2) = w3 at *
  clear r0 r1 r2 r3 r4 r5 r6 r7 r8 r9 r10 r11 r12 r13 f0 f1 f2 f3 f4 f5 f6 f7 f8 f9 f10 f11 f12 f13
  obtain ⟨m0, m1, m2, m3, m4, m5, m6, m7, m8, m9, m10, m11, m12, m13⟩ := HX3.out.cells14
  go_wp2_with fail
  refine (EB.out D2 c2 _ HO2.out.sl).mono ?_
  rintro e w4 ⟨X, x, rfl, ho, hb⟩
  have HX4 := Lib.hid (HX3.out.below hb HX3.out.lt)
  have HB4 := Lib.hid (HB3.out.trans (hb.mono HB3.out.size))
  have HO4 := Lib.hid ho.sl
  have HO24 := Lib.hid (HO2.out.keep hb)
  clear ho hb m0 m1 m2 m3 m4 m5 m6 m7 m8 m9 m10 m11 m12 m13 HX3 HB3 HO2
  obtain ⟨m0, m1, m2, m3, m4, m5, m6, m7, m8, m9, m10, m11, m12, m13⟩ := HX4.out.cells14
  rw [LF.out]
  by_cases hlong : (1500 : Int) < m
  · have EE : Hid (ethE m = 3) := by show _ = _; rw [ethE, if_neg (by omega)]
    rw [EE.out]
    clear HO4
    go_wp2_with fail
    go_ret
    exact ⟨rfl, HB4.out⟩
  · have EE : Hid (ethE m = 0) := by show _ = _; rw [ethE, if_pos (by omega)]
    have hm15 : m ≤ 1500 := by omega
    have ER : Hid (ethR [a0, a1, a2, a3, a4, a5] [b0, b1, b2, b3, b4, b5] k F = ethB [a0, a1, a2, a3, a4, a5] [b0, b1, b2, b3, b4, b5] k F) := by show _ = _; rw [ethR, if_pos (by rw [LF.out]; omega)]
    rw [EE.out, ER.out]
    rw [ER.out] at HO4
    obtain ⟨hr1, hr2, hr3, hr4, hr5⟩ := back_read a0 a1 a2 a3 a4 a5 b0 b1 b2 b3 b4 b5 k F k0 k1 (by rw [LF.out]; omega)
    obtain ⟨r, LR⟩ : ∃ r, Hid ((ethB [a0, a1, a2, a3, a4, a5] [b0, b1, b2, b3, b4, b5] k F).length = r) := ⟨_, rfl⟩
    rw [LR.out]
    have RD := Lib.hid (fun (A : Option Addr) (c : Nat) (w : World) hs => read_any A (ethB [a0, a1, a2, a3, a4, a5] [b0, b1, b2, b3, b4, b5] k F) r c w LR.out hs)
    unfold EGot at RD
    rw [hr1, hr2, hr3, hr4, hr5] at RD
    simp only [frameV, List.map_cons, List.map_nil, bval, List.cons_append, List.nil_append] at RD
    clear hr1 hr2 hr3 hr4 hr5 hlong
    have hM : ∃ M : Nat, Hid ((F ++ List.replicate (46 - F.length) (0 : UInt8)).length = M) ∧ max (m : Int) 46 = (M : Int) ∧ (m : Int) ≤ M ∧ M ≤ 1500 := ⟨(F ++ List.replicate (46 - F.length) (0 : UInt8)).length, rfl, by rw [List.length_append, List.length_replicate, LF.out]; omega, by rw [List.length_append, List.length_replicate, LF.out]; omega, by rw [List.length_append, List.length_replicate, LF.out]; omega⟩
    obtain ⟨M, LM, hmx, hmM, hM15⟩ := hM
    have TK : Hid ((F ++ List.replicate (46 - F.length) (0 : UInt8)).take m = F) := by show _ = _; rw [← LF.out]; simp
    have GZ : Hid (∀ i, m ≤ i → (F ++ List.replicate (46 - F.length) (0 : UInt8)).getD i 0 = 0) := fun i hi => by
      rw [List.getD_eq_getElem?_getD, List.getElem?_append_right (by rw [LF.out]; exact hi), List.getElem?_replicate]
      split <;> rfl
    generalize F ++ List.replicate (46 - F.length) (0 : UInt8) = Z at *
    rw [LM.out] at RD
    go_wp2_with fail
    refine (RD.out X x _ HO4.out).mono ?_
    rintro e w5 ⟨Y, y, rfl, ho, hb⟩
    have HX5 := Lib.hid (HX4.out.below hb HX4.out.lt)
    have HB5 := Lib.hid (HB4.out.trans (hb.mono HB4.out.size))
    have HO5 := Lib.hid ho
    have HO25 := Lib.hid (HO24.out.keep hb)
    clear ho hb m0 m1 m2 m3 m4 m5 m6 m7 m8 m9 m10 m11 m12 m13 HX4 HB4 HO4 HO24
    go_upto_region 8 with fail
    have ha := (Below.refl w5.heap.size w5).alloc (Nat.le_refl _) (.cells #[(.int .u8 (a0.toNat : Int)), (.int .u8 (a1.toNat : Int)), (.int .u8 (a2.toNat : Int)), (.int .u8 (a3.toNat : Int)), (.int .u8 (a4.toNat : Int)), (.int .u8 (a5.toNat : Int)), (.int .u8 (b0.toNat : Int)), (.int .u8 (b1.toNat : Int)), (.int .u8 (b2.toNat : Int)), (.int .u8 (b3.toNat : Int)), (.int .u8 (b4.toNat : Int)), (.int .u8 (b5.toNat : Int)), .int .u16 k, .slice Y M y] 37)
    have HG := Lib.hid (blk_new w5 37 #[(.int .u8 (a0.toNat : Int)), (.int .u8 (a1.toNat : Int)), (.int .u8 (a2.toNat : Int)), (.int .u8 (a3.toNat : Int)), (.int .u8 (a4.toNat : Int)), (.int .u8 (a5.toNat : Int)), (.int .u8 (b0.toNat : Int)), (.int .u8 (b1.toNat : Int)), (.int .u8 (b2.toNat : Int)), (.int .u8 (b3.toNat : Int)), (.int .u8 (b4.toNat : Int)), (.int .u8 (b5.toNat : Int)), .int .u16 k, .slice Y M y])
    have HX6 := Lib.hid (HX5.out.below ha HX5.out.lt)
    have HO6 := Lib.hid (HO5.out.keep ha)
    have HO26 := Lib.hid (HO25.out.keep ha)
    have HB6 := Lib.hid (HB5.out.trans (ha.mono HB5.out.size))
    clear ha HX5 HO5 HO25 HB5
    generalize w5.alloc (.cells #[(.int .u8 (a0.toNat : Int)), (.int .u8 (a1.toNat : Int)), (.int .u8 (a2.toNat : Int)), (.int .u8 (a3.toNat : Int)), (.int .u8 (a4.toNat : Int)), (.int .u8 (a5.toNat : Int)), (.int .u8 (b0.toNat : Int)), (.int .u8 (b1.toNat : Int)), (.int .u8 (b2.toNat : Int)), (.int .u8 (b3.toNat : Int)), (.int .u8 (b4.toNat : Int)), (.int .u8 (b5.toNat : Int)), .int .u16 k, .slice Y M y] 37) = w6 at *
    obtain ⟨gp, hgp⟩ : ∃ gp, Hid (w5.heap.size = gp) := ⟨_, rfl⟩
    rw [hgp.out] at HG ⊢
    obtain ⟨m0, m1, m2, m3, m4, m5, m6, m7, m8, m9, m10, m11, m12, m13⟩ := HX6.out.cells14
    obtain ⟨r0, r1, r2, r3, r4, r5, r6, r7, r8, r9, r10, r11, r12, r13⟩ := HG.out.cells14
    have q0 : ∀ W : World, (Op.equalIn 10000 23 (.agg #[(.int .u8 (a0.toNat : Int)), (.int .u8 (a1.toNat : Int)), (.int .u8 (a2.toNat : Int)), (.int .u8 (a3.toNat : Int)), (.int .u8 (a4.toNat : Int)), (.int .u8 (a5.toNat : Int))]) (.agg #[(.int .u8 (a0.toNat : Int)), (.int .u8 (a1.toNat : Int)), (.int .u8 (a2.toNat : Int)), (.int .u8 (a3.toNat : Int)), (.int .u8 (a4.toNat : Int)), (.int .u8 (a5.toNat : Int))])).run Try.prog W = .ok true W := fun W => by
      have := mac_eq [a0, a1, a2, a3, a4, a5] [a0, a1, a2, a3, a4, a5] rfl rfl W
      rw [beq_self_eq_true] at this
      exact this
    have q1 : ∀ W : World, (Op.equalIn 10000 23 (.agg #[(.int .u8 (b0.toNat : Int)), (.int .u8 (b1.toNat : Int)), (.int .u8 (b2.toNat : Int)), (.int .u8 (b3.toNat : Int)), (.int .u8 (b4.toNat : Int)), (.int .u8 (b5.toNat : Int))]) (.agg #[(.int .u8 (b0.toNat : Int)), (.int .u8 (b1.toNat : Int)), (.int .u8 (b2.toNat : Int)), (.int .u8 (b3.toNat : Int)), (.int .u8 (b4.toNat : Int)), (.int .u8 (b5.toNat : Int))])).run Try.prog W = .ok true W := fun W => by
      have := mac_eq [b0, b1, b2, b3, b4, b5] [b0, b1, b2, b3, b4, b5] rfl rfl W
      rw [beq_self_eq_true] at this
      exact this
    have hg := mac_guard
    have hyM : (M : Int) ≤ y := by have := HO6.out.sl.2.1; rw [LM.out] at this; omega
    obtain ⟨gy, rfl, hgy1, hgy2⟩ := HO6.out.form (by rw [LM.out]; omega)
    go_quiet ((go_at_call 22; exact Calls.quiet_of_same ((same_n _ F m y D2 F m c2 _ LF.out LF.out (by exact (TK.out ▸ HO6.out.bs.take m).drawn ⟨_, rfl⟩) (by exact HO26.out.bs.drawn ⟨_, rfl⟩)).mono fun _ _ h => ⟨h.1, h.2.symm⟩)))
    have HX7 : Hid (Blk (w6.drewN nq) w.heap.size 37 #[(.int .u8 (a0.toNat : Int)), (.int .u8 (a1.toNat : Int)), (.int .u8 (a2.toNat : Int)), (.int .u8 (a3.toNat : Int)), (.int .u8 (a4.toNat : Int)), (.int .u8 (a5.toNat : Int)), (.int .u8 (b0.toNat : Int)), (.int .u8 (b1.toNat : Int)), (.int .u8 (b2.toNat : Int)), (.int .u8 (b3.toNat : Int)), (.int .u8 (b4.toNat : Int)), (.int .u8 (b5.toNat : Int)), .int .u16 k, .slice D2 m c2]) := HX6.out
    have HG7 : Hid (Blk (w6.drewN nq) gp 37 #[(.int .u8 (a0.toNat : Int)), (.int .u8 (a1.toNat : Int)), (.int .u8 (a2.toNat : Int)), (.int .u8 (a3.toNat : Int)), (.int .u8 (a4.toNat : Int)), (.int .u8 (a5.toNat : Int)), (.int .u8 (b0.toNat : Int)), (.int .u8 (b1.toNat : Int)), (.int .u8 (b2.toNat : Int)), (.int .u8 (b3.toNat : Int)), (.int .u8 (b4.toNat : Int)), (.int .u8 (b5.toNat : Int)), .int .u16 k, .slice (some ⟨gy, 0, none⟩) M y]) := HG.out
    have HO7 : Hid (Own (w6.drewN nq) w4.heap.size (some ⟨gy, 0, none⟩) y Z) := HO6.out
    have HB7 := Lib.hid (below_drewN HB6.out nq)
    clear HX6 HG HO6 HO26 HB6 q0 q1 hg m0 m1 m2 m3 m4 m5 m6 m7 m8 m9 m10 m11 m12 m13 r0 r1 r2 r3 r4 r5 r6 r7 r8 r9 r10 r11 r12 r13
    generalize w6.drewN nq = w7 at *
    have x13 : w7.cell? ⟨w.heap.size, 13, none⟩ = some (.slice D2 m c2) := HX7.out.cell 13
    have y13 : w7.cell? ⟨gp, 13, none⟩ = some (.slice (some ⟨gy, 0, none⟩) M y) := HG7.out.cell 13
    go_wp2_with fail
    go_loop [7] (fun i => ∃ j : Nat, m ≤ j ∧ j ≤ M ∧ i = .int .i64 j) (fun i => M - (intOf i).toNat)
    case atStart => exact ⟨m, Nat.le_refl _, by omega, rfl⟩
    case round =>
      obtain ⟨j, hj1, hj2, rfl⟩ := hrel
      by_cases hlt : j < M
      · have zc : w7.cell? ⟨gy, j, none⟩ = some (.int .u8 0) := by
          have := HO7.out.cell j (by rw [LM.out]; exact hlt)
          rw [GZ.out j hj1] at this
          exact this
        go_wp2_with fail
        go_round
        case rel => exact ⟨j + 1, by omega, by omega, by go_num⟩
        case measure => simp [intOf]; omega
      · go_wp2_with fail
        go_ret
        exact ⟨rfl, HB7.out⟩

theorem ethBack_walk (to_ fr : List UInt8) (k : Int) (D : Option Addr) (d : List UInt8) (c : Nat) (w : World) (h1 : to_.length = 6) (h2 : fr.length = 6) (k0 : 0 ≤ k) (k1 : k < 65536) (hs : Sl w D c d) :
    Calls Try.prog 7 #[.agg (frameV to_ fr k D d.length c)] w fun e w' => e = .returned (.bool true) ∧ Below w.heap.size w w' := by
  obtain ⟨a0, a1, a2, a3, a4, a5, rfl⟩ := six h1
  obtain ⟨b0, b1, b2, b3, b4, b5, rfl⟩ := six h2
  exact ethBack_walk0 a0 a1 a2 a3 a4 a5 b0 b1 b2 b3 b4 b5 k D d d.length c w k0 k1 rfl hs
end Go.Proofs.Ythchjfkbaocoiaa
