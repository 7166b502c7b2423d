/-
  The walk of the reference's Read.
-/
import Derived.Test.YtpnfdnnfhmecjaaSegI
import Derived.Test.YtpnfdnnfhmecjaaSegH
namespace Go.Proofs.Ytpnfdnnfhmecjaa
open Go.RowKit
set_option linter.unusedVariables false

def RR0 (w0 W : World) : Prop := Below w0.heap.size w0 W ∧ Blk W w0.heap.size 32 #[.int .i64 0, .int .i64 0, .int .u32 0, .int .u32 0, .int .i64 0, .int .i64 0, .int .i64 0, .int .i64 0, .slice none 0 0]
section
variable {w0 W W' : World} {p : Addr} {v : Value} {g : Nat}
theorem RR0.below (h : RR0 w0 W) (hb : Below W.heap.size W W') : RR0 w0 W' := ⟨h.1.trans (hb.mono h.1.size), h.2.below hb h.2.lt⟩
theorem RR0.dn (h : RR0 w0 W) (hd : Drawn W W') : RR0 w0 W' := h.below (hd.below _)
theorem RR0.dw (h : RR0 w0 W) : RR0 w0 W.drew := h.dn ⟨1, rfl⟩
theorem RR0.al {ob : Obj} (h : RR0 w0 W) : RR0 w0 (W.alloc ob) := h.below ((Below.refl _ _).alloc (Nat.le_refl _) _)
theorem RR0.aldw {ob : Obj} (h : RR0 w0 W) : RR0 w0 (W.alloc ob).drew := h.al.dw
theorem RR0.d1 (hd : Drawn W.drew W') (h : RR0 w0 W) : RR0 w0 W' := h.dw.dn hd
theorem RR0.d2 {ob : Obj} (hd : Drawn (W.alloc ob) W') (h : RR0 w0 W) : RR0 w0 W' := h.al.dn hd
theorem RR0.d3 {ob : Obj} (hd : Drawn (W.alloc ob).drew W') (h : RR0 w0 W) : RR0 w0 W' := h.aldw.dn hd
theorem RR0.bs {A : Option Addr} {c : Nat} {bs : List UInt8} (h : RR0 w0 W) (hs : Sl w0 A c bs) : Bs W A bs := hs.1.below h.1
theorem RR0.sl {A : Option Addr} {c : Nat} {bs : List UInt8} (h : RR0 w0 W) (hs : Sl w0 A c bs) : Sl W A c bs := hs.below h.1
theorem RR0.lt (h : RR0 w0 W) : w0.heap.size + 1 ≤ W.heap.size := h.2.lt
theorem RR0.grown {n c : Nat} (h : RR0 w0 W) (hE : EE w0 g W) (hg : W.grownBy W' (Value.slice (some ⟨g, 0, none⟩) n c).ownBlock) : RR0 w0 W' := by
  have hg' : W.grownBy W' (some g) := hg
  exact ⟨below_grown h.1 hg' (Nat.le_refl _) (Nat.le_of_lt hE.1), h.2.grown hg' (by have := hE.1; omega)⟩
theorem RR0.cell (h : RR0 w0 W) (hw : w0.cell? p = some v) : W.cell? p = some v := keep_below h.1 _ _ hw
theorem rr_0 (h : RR0 w0 W) (hd : Drawn (W.alloc (.cells #[] 5)) W') : EE w0 W.heap.size W' := ⟨h.2.lt, (blk_new W _ _).below (hd.below (W.alloc (.cells #[] 5)).heap.size) (by simp)⟩
theorem rr_1 (h : RR0 w0 W) (hd : Drawn (W.alloc (.cells #[] 5)).drew W') : EE w0 W.heap.size W' := rr_0 h ((show Drawn _ _ from ⟨1, rfl⟩).trans hd)
theorem rr_2 (h : RR0 w0 W) : EE w0 W.heap.size (W.alloc (.cells #[] 5)) := rr_0 h (Drawn.refl _)
end
theorem u32_pair (a b : Nat) (ha : a < 65536) (hb : b < 65536) : IntKind.u32.wrap (IntKind.i64.wrap (IntKind.i64.wrap (65536 * (a : Int)) + (b : Int))) = ((a * 65536 + b : Nat) : Int) := by
  have e1 : IntKind.i64.wrap (65536 * (a : Int)) = 65536 * (a : Int) := IntWalk.i64_in _ (by omega)
  have e2 : IntKind.i64.wrap (65536 * (a : Int) + (b : Int)) = 65536 * (a : Int) + (b : Int) := IntWalk.i64_in _ (by omega)
  rw [e1, e2]
  simp [IntKind.wrap, IntKind.bits, IntKind.signed]
  omega

set_option maxHeartbeats 8000000 in
set_option maxRecDepth 100000 in
theorem refread_any (f t : Int) (A : Option Addr) (bs : List UInt8) (n c : Nat) (w : World) (hn : bs.length = n) (hs : Sl w A c bs) (hl : (n : Int) ≤ 70000) (f0 : 0 ≤ f) (f1 : f < 4294967296) (t0 : 0 ≤ t) (t1 : t < 4294967296) :
    Calls Try.prog 16 #[.int .u32 f, .int .u32 t, .slice A n c] w (SGot f t bs w) := by
  have hb : Below w.heap.size w (w.alloc (.cells #[.int .i64 0, .int .i64 0, .int .u32 0, .int .u32 0, .int .i64 0, .int .i64 0, .int .i64 0, .int .i64 0, .slice none 0 0] 32)) := (Below.refl _ _).alloc (Nat.le_refl _) _
  have hbx := blk_new w 32 #[.int .i64 0, .int .i64 0, .int .u32 0, .int .u32 0, .int .i64 0, .int .i64 0, .int .i64 0, .int .i64 0, .slice none 0 0]
  have HN := Lib.hid hn
  have HSW := Lib.hid hs
  have HB := Lib.hid hb
  have HX := Lib.hid hbx
  have HS := Lib.hid (hs.below hb)
  have hcap : (n : Int) ≤ c := by have := hs.2.1; rw [hn] at this; omega
  clear hn hs hb hbx
  go_enter Try.func16, Try.ntmps16
  go_upto_region 1 with fail
  generalize w.alloc (.cells #[.int .i64 0, .int .i64 0, .int .u32 0, .int .u32 0, .int .i64 0, .int .i64 0, .int .i64 0, .int .i64 0, .slice none 0 0] 32) = w1 at *
  · skip
    by_cases hn20 : (n : Int) < 20
    · have NO : Hid (readS f t bs = none) := readS_bad (fun h => by have := h.1; rw [HN.out] at this; omega)
      obtain ⟨r0, r1, r2, r3, r4, r5, r6, r7, r8⟩ := HX.out.cells9
      obtain ⟨g0, g1, g2, g3, g4, g5, g6, g7, g8⟩ := HX.out.frees9
      have st := HX.out.store9 (.int .i64 0) (.int .i64 0) (.int .u32 0) (.int .u32 0) (.int .i64 0) (.int .i64 0) (.int .i64 0) (.int .i64 0) (.slice none 0 0)
      have hfz := below_grown HB.out st.2 (Nat.le_refl _) (Nat.le_refl _)
      have HFZ := Lib.hid hfz
      have HKZ := Lib.hid st.1
      clear st hfz
      go_wp2_with fail
      generalize World.setCell _ _ (Value.slice none 0 0) = w9 at HKZ HFZ ⊢
      obtain ⟨d0, d1, d2, d3, d4, d5, d6, d7, d8⟩ := HKZ.out.cells9
      exact bodyPost_ret (v := .tuple #[.agg #[.int .i64 0, .int .i64 0, .int .u32 0, .int .u32 0, .int .i64 0, .int .i64 0, .int .i64 0, .int .i64 0, .slice none 0 0], .int .i64 110]) (by simp [results, Try.results16, go_sem, d0, d1, d2, d3, d4, d5, d6, d7, d8]) rfl (sgot_no NO.out HFZ.out)
    · obtain ⟨b, off, rfl, hc⟩ := HS.out.1.at_ (by rw [HN.out]; omega)
      have c12 := hc 12 (by rw [HN.out]; omega)
      clear hc
      have i12 : (12 : Int) < (n : Int) := by omega
      obtain ⟨x, EX⟩ : ∃ x, Hid (bs.getD 12 0 = x) := ⟨_, rfl⟩
      rw [EX.out] at c12
      have hx := x.toNat_lt
      have ESZ : Hid (sizeOf_ bs = 4 * (x.toNat / 16)) := by show _ = _; rw [sizeOf_, EX.out]
      obtain ⟨sz, HSZ⟩ : ∃ sz : Nat, Hid (sizeOf_ bs = sz) := ⟨_, rfl⟩
      have hsz : ((4 : Int) * ((x.toNat : Int) / 16)) = (sz : Int) := by rw [← HSZ.out, ESZ.out]; omega
      have hsz60 : sz ≤ 60 := by rw [← HSZ.out, ESZ.out]; omega
      by_cases hs20 : (sz : Int) < 20
      · have NO : Hid (readS f t bs = none) := readS_bad (fun h => by have := h.2.1; rw [HSZ.out] at this; omega)
        obtain ⟨r0, r1, r2, r3, r4, r5, r6, r7, r8⟩ := HX.out.cells9
        obtain ⟨g0, g1, g2, g3, g4, g5, g6, g7, g8⟩ := HX.out.frees9
        have st := HX.out.store9 (.int .i64 0) (.int .i64 0) (.int .u32 0) (.int .u32 0) (.int .i64 0) (.int .i64 0) (.int .i64 0) (.int .i64 0) (.slice none 0 0)
        have hfz := below_grown HB.out st.2 (Nat.le_refl _) (Nat.le_refl _)
        have HFZ := Lib.hid hfz
        have HKZ := Lib.hid st.1
        clear st hfz
        go_wp2_with fail
        generalize World.setCell _ _ (Value.slice none 0 0) = w9 at HKZ HFZ ⊢
        obtain ⟨d0, d1, d2, d3, d4, d5, d6, d7, d8⟩ := HKZ.out.cells9
        exact bodyPost_ret (v := .tuple #[.agg #[.int .i64 0, .int .i64 0, .int .u32 0, .int .u32 0, .int .i64 0, .int .i64 0, .int .i64 0, .int .i64 0, .slice none 0 0], .int .i64 110]) (by simp [results, Try.results16, go_sem, d0, d1, d2, d3, d4, d5, d6, d7, d8]) rfl (sgot_no NO.out HFZ.out)
      · by_cases hsn : (n : Int) < (sz : Int)
        · have NO : Hid (readS f t bs = none) := readS_bad (fun h => by have := h.2.2.1; rw [HSZ.out, HN.out] at this; omega)
          obtain ⟨r0, r1, r2, r3, r4, r5, r6, r7, r8⟩ := HX.out.cells9
          obtain ⟨g0, g1, g2, g3, g4, g5, g6, g7, g8⟩ := HX.out.frees9
          have st := HX.out.store9 (.int .i64 0) (.int .i64 0) (.int .u32 0) (.int .u32 0) (.int .i64 0) (.int .i64 0) (.int .i64 0) (.int .i64 0) (.slice none 0 0)
          have hfz := below_grown HB.out st.2 (Nat.le_refl _) (Nat.le_refl _)
          have HFZ := Lib.hid hfz
          have HKZ := Lib.hid st.1
          clear st hfz
          go_wp2_with fail
          generalize World.setCell _ _ (Value.slice none 0 0) = w9 at HKZ HFZ ⊢
          obtain ⟨d0, d1, d2, d3, d4, d5, d6, d7, d8⟩ := HKZ.out.cells9
          exact bodyPost_ret (v := .tuple #[.agg #[.int .i64 0, .int .i64 0, .int .u32 0, .int .u32 0, .int .i64 0, .int .i64 0, .int .i64 0, .int .i64 0, .slice none 0 0], .int .i64 110]) (by simp [results, Try.results16, go_sem, d0, d1, d2, d3, d4, d5, d6, d7, d8]) rfl (sgot_no NO.out HFZ.out)
        · obtain ⟨tt, ET⟩ : ∃ tt, Hid (totalN f t bs = tt) := ⟨_, rfl⟩
          obtain ⟨pp, EP⟩ : ∃ pp : Nat, Hid (pseudo f t 6 (n : Int) = pp) := ⟨_, rfl⟩
          have hpp : pp ≤ 65535 := by rw [← EP.out]; exact rnd_le _
          have ETP : Hid (rnd (pp + words bs) = tt) := by show _ = _; rw [← ET.out, totalN, HN.out, EP.out]
          have PA := Lib.hid (fun w => refpseudo_any f t (n : Int) w f0 f1 t0 t1 (by omega) hl)
          rw [EP.out] at PA
          have TA := Lib.hid (fun (w : World) (hb : Bs w (some ⟨b, off, none⟩) bs) => refadd_n (pp : Int) (by omega) (by omega) _ bs n c w HN.out hb (by rw [HN.out]; omega))
          rw [Int.toNat_natCast, ETP.out] at TA
          by_cases htt : tt = 65535
          · have HOK : Hid (okHead f t bs) := ⟨by rw [HN.out]; omega, by rw [HSZ.out]; omega, by rw [HSZ.out, HN.out]; omega, by rw [ET.out]; exact htt⟩
            rw [htt] at TA
            clear htt ET
            go_wp2_with fail
            refine (PA.out _).mono ?_
            rintro e w2 ⟨rfl, hb2⟩
            have HSA := Lib.hid (HS.out.below hb2)
            go_wp2_with fail
            refine (TA.out _ HSA.out.1).mono ?_
            rintro e w2' ⟨rfl, rfl⟩
            clear HSA PA
            have HX2 := Lib.hid (HX.out.below hb2 HX.out.lt)
            have HB2 := Lib.hid (HB.out.trans (hb2.mono HB.out.size))
            have HS2 := Lib.hid (HS.out.below hb2)
            replace c12 := keep_below hb2 _ _ c12
            clear hb2 HX HB HS TA
            have hot := (HS2.out.take sz).cut 20 (by rw [List.length_take, HN.out]; omega)
            simp only [Option.map_some, add_lit'] at hot
            obtain ⟨AA, EA⟩ : ∃ AA, (if c = 20 then some (⟨b, off, none⟩ : Addr) else some (⟨b, off + 20, none⟩ : Addr)) = AA := ⟨_, rfl⟩
            rw [EA] at hot
            have HEO : Hid (optsOf bs = (bs.take sz).drop 20) := by show _ = _; rw [optsOf, HSZ.out]
            rw [← HEO.out] at hot
            have HLO : Hid ((optsOf bs).length = sz - 20) := by show _ = _; rw [HEO.out, List.length_drop, List.length_take, HN.out]; omega
            have GA := Lib.hid (options_n AA (optsOf bs) (sz - 20) (c - 20) w2 HLO.out hot (by omega))
            clear hot
            have i20 : (20 : Int) ≤ (sz : Int) := by omega
            have i20c : (sz : Int) ≤ (c : Int) := by omega
            cases hgr : gre 0 (optsOf bs) with
            | none =>
              have NO : Hid (readS f t bs = none) := readS_none HOK.out hgr
              rw [hgr] at GA
              clear hgr
              go_wp2_with fail
              refine GA.out.mono ?_
              rintro e w3 ⟨rfl, hd3⟩
              have HX3 := Lib.hid (HX2.out.below (hd3.below w2.heap.size) HX2.out.lt)
              have HB3 := Lib.hid (HB2.out.trans (hd3.below _))
              clear hd3 GA
              obtain ⟨r0, r1, r2, r3, r4, r5, r6, r7, r8⟩ := HX3.out.cells9
              obtain ⟨g0, g1, g2, g3, g4, g5, g6, g7, g8⟩ := HX3.out.frees9
              have st := HX3.out.store9 (.int .i64 0) (.int .i64 0) (.int .u32 0) (.int .u32 0) (.int .i64 0) (.int .i64 0) (.int .i64 0) (.int .i64 0) (.slice none 0 0)
              have hfz := below_grown HB3.out st.2 (Nat.le_refl _) (Nat.le_refl _)
              have HFZ := Lib.hid hfz
              have HKZ := Lib.hid st.1
              clear st hfz
              go_wp2_with fail
              generalize World.setCell _ _ (Value.slice none 0 0) = w9 at HKZ HFZ ⊢
              obtain ⟨d0, d1, d2, d3, d4, d5, d6, d7, d8⟩ := HKZ.out.cells9
              exact bodyPost_ret (v := .tuple #[.agg #[.int .i64 0, .int .i64 0, .int .u32 0, .int .u32 0, .int .i64 0, .int .i64 0, .int .i64 0, .int .i64 0, .slice none 0 0], .int .i64 110]) (by simp [results, Try.results16, go_sem, d0, d1, d2, d3, d4, d5, d6, d7, d8]) rfl (sgot_no NO.out HFZ.out)
            | some m =>
              have HGR := Lib.hid hgr
              rw [hgr] at GA
              clear hgr
              go_wp2_with fail
              refine GA.out.mono ?_
              rintro e w3 ⟨rfl, hd3⟩
              have HX3 := Lib.hid (HX2.out.below (hd3.below w2.heap.size) HX2.out.lt)
              have HB3 := Lib.hid (HB2.out.trans (hd3.below _))
              clear hd3 GA HX2 HB2 HS2 c12
              obtain ⟨b', off', e', hcw⟩ := HSW.out.1.at_ (by rw [HN.out]; omega)
              injection e' with e'
              injection e' with e1 e2
              subst e1 e2
              have c13w := hcw 13 (by rw [HN.out]; omega)
              have lbw := World.block_lt_of_cell? w _ c13w
              obtain ⟨x13, E13⟩ : ∃ x, Hid (bs.getD 13 0 = x) := ⟨_, rfl⟩
              rw [E13.out] at c13w
              have hP : RR0 w w3 := ⟨HB3.out, HX3.out⟩
              have HCW := Lib.hid c13w
              have nb0 : b ≠ w.heap.size := by simp at lbw; omega
              have c13 := hP.cell c13w
              obtain ⟨ZA, EZA⟩ : ∃ ZA, (if c = sz then some (⟨b, off, none⟩ : Addr) else some (⟨b, off + sz, none⟩ : Addr)) = ZA := ⟨_, rfl⟩
              have hza := HSW.out.cut sz (by rw [HN.out]; omega)
              simp only [Option.map_some, add_lit'] at hza
              rw [EZA] at hza
              have HZA := Lib.hid hza
              have HLD : Hid ((bs.drop sz).length = n - sz) := by show _ = _; rw [List.length_drop, HN.out]
              obtain ⟨z63, EZ63⟩ : ∃ z, Hid (x13.toNat % 64 = z) := ⟨_, rfl⟩
              have hz63 : z63 < 64 := by rw [← EZ63.out]; omega
              have h63 : (x13.toNat : Int) % 64 = (z63 : Int) := by rw [← EZ63.out]; omega
              have h63' : (x13.toNat : Int).tmod 64 = (z63 : Int) := by rw [Int.tmod_eq_emod_of_nonneg (by omega)]; exact h63
              have w63 : IntKind.i64.wrap (z63 : Int) = (z63 : Int) := IntWalk.i64_in _ (by omega)
              have isz : (sz : Int) ≤ (n : Int) := by omega
              clear hcw c13w hza HB3 HX3 lbw hx hsz hsz60 hs20 hsn
              obtain ⟨v0, EV0⟩ : ∃ v, Hid (get2 bs 0 = v) := ⟨_, rfl⟩
              obtain ⟨v2, EV2⟩ : ∃ v, Hid (get2 bs 2 = v) := ⟨_, rfl⟩
              obtain ⟨v4, EV4⟩ : ∃ v, Hid (get2 bs 4 = v) := ⟨_, rfl⟩
              obtain ⟨v6, EV6⟩ : ∃ v, Hid (get2 bs 6 = v) := ⟨_, rfl⟩
              obtain ⟨v8, EV8⟩ : ∃ v, Hid (get2 bs 8 = v) := ⟨_, rfl⟩
              obtain ⟨v10, EV10⟩ : ∃ v, Hid (get2 bs 10 = v) := ⟨_, rfl⟩
              have b4 : v4 < 65536 := by rw [← EV4.out]; exact get2_bd _ _
              have b6 : v6 < 65536 := by rw [← EV6.out]; exact get2_bd _ _
              have b8 : v8 < 65536 := by rw [← EV8.out]; exact get2_bd _ _
              have b10 : v10 < 65536 := by rw [← EV10.out]; exact get2_bd _ _
              have UA := Lib.hid (u32_pair v4 v6 b4 b6)
              have UB := Lib.hid (u32_pair v8 v10 b8 b10)
              have E4 : Hid (get4 bs 4 = v4 * 65536 + v6) := by show _ = _; rw [get4, EV4.out, EV6.out]
              have E8 : Hid (get4 bs 8 = v8 * 65536 + v10) := by show _ = _; rw [get4, EV8.out, EV10.out]
              clear b4 b6 b8 b10
              obtain ⟨v14, EV14⟩ : ∃ v, Hid (get2 bs 14 = v) := ⟨_, rfl⟩
              obtain ⟨v18, EV18⟩ : ∃ v, Hid (get2 bs 18 = v) := ⟨_, rfl⟩
              have i13 : (13 : Int) < (n : Int) := by omega
              have i2 : (2 : Int) ≤ (n : Int) := by omega
              have i4 : (4 : Int) ≤ (n : Int) := by omega
              have i8 : (8 : Int) ≤ (n : Int) := by omega
              have i14 : (14 : Int) ≤ (n : Int) := by omega
              have i18 : (18 : Int) ≤ (n : Int) := by omega
              have i0 : (0 : Int) ≤ (sz : Int) := by omega
              have m2 : ¬ c = 2 := by omega
              have m4 : ¬ c = 4 := by omega
              have m8 : ¬ c = 8 := by omega
              have m14 : ¬ c = 14 := by omega
              have m18 : ¬ c = 18 := by omega
              have ic2 : (2 : Int) ≤ (c : Int) := by omega
              have ic4 : (4 : Int) ≤ (c : Int) := by omega
              have ic6 : (6 : Int) ≤ (c : Int) := by omega
              have ic8 : (8 : Int) ≤ (c : Int) := by omega
              have ic10 : (10 : Int) ≤ (c : Int) := by omega
              have ic12 : (12 : Int) ≤ (c : Int) := by omega
              have ic14 : (14 : Int) ≤ (c : Int) := by omega
              have ic16 : (16 : Int) ≤ (c : Int) := by omega
              have ic18 : (18 : Int) ≤ (c : Int) := by omega
              have ic20 : (20 : Int) ≤ (c : Int) := by omega
              have im6 : ¬ c = 6 := by omega
              have im10 : ¬ c = 10 := by omega
              go_upto_region 9 with fail
              refine wp_region_held_drew (S := fun w' => w'.cell? ⟨b, off + 13, none⟩ = some (.int .u8 (x13.toNat : Int))) (by kernel_rfl) ?_ (fun hHeld => ?_)
              · exact c13
              have hP := RR0.dw hP
              clear c13
              generalize w3.drew = w4 at *
              refine wpAnyH_take (i := 0) (v := ?_) rfl (by kernel_rfl) (by kernel_rfl) (by kernel_rfl) (fun _ _ _ h => h) (Or.inl ⟨by rfl, ?_⟩) (by assumption) ?_
              rotate_left
              · intro w hSw
                (try dsimp only at hSw)
                go_simp
                try with_reducible rfl
              try simp only [Act.put, List.getElem_toArray, List.getElem_cons_zero, List.setIfInBounds_toArray, List.set_cons_zero, List.set_cons_succ]
              refine wpAnyH_take (i := 1) (v := ?_) rfl (by kernel_rfl) (by kernel_rfl) (by kernel_rfl) (fun _ _ _ h => h) (Or.inl ⟨by rfl, ?_⟩) (by assumption) ?_
              rotate_left
              · intro w hSw
                (try dsimp only at hSw)
                go_simp
                try with_reducible rfl
              try simp only [Act.put, List.getElem_toArray, List.getElem_cons_zero, List.getElem_cons_succ, List.setIfInBounds_toArray, List.set_cons_zero, List.set_cons_succ]
              refine wpAnyH_take (i := 3) (v := ?_) rfl (by kernel_rfl) (by kernel_rfl) (by kernel_rfl) (fun _ _ _ h => h) (Or.inl ⟨by rfl, ?_⟩) (by assumption) ?_
              rotate_left
              · intro w hSw
                (try dsimp only at hSw)
                go_simp
                try with_reducible rfl
              try simp only [Act.put, List.getElem_toArray, List.getElem_cons_zero, List.getElem_cons_succ, List.setIfInBounds_toArray, List.set_cons_zero, List.set_cons_succ]
              refine wpAnyH_take (i := 4) (v := ?_) rfl (by kernel_rfl) (by kernel_rfl) (by kernel_rfl) (fun _ _ _ h => h) (Or.inl ⟨by rfl, ?_⟩) (by assumption) ?_
              rotate_left
              · intro w hSw
                (try dsimp only at hSw)
                go_simp
                try with_reducible rfl
              try simp only [Act.put, List.getElem_toArray, List.getElem_cons_zero, List.getElem_cons_succ, List.setIfInBounds_toArray, List.set_cons_zero, List.set_cons_succ]
              refine wpAnyH_take (i := 6) (v := ?_) rfl (by kernel_rfl) (by kernel_rfl) (by kernel_rfl) (fun _ _ _ h => h) (Or.inl ⟨by rfl, ?_⟩) (by assumption) ?_
              rotate_left
              · intro w hSw
                (try dsimp only at hSw)
                go_simp
                try with_reducible rfl
              try simp only [Act.put, List.getElem_toArray, List.getElem_cons_zero, List.getElem_cons_succ, List.setIfInBounds_toArray, List.set_cons_zero, List.set_cons_succ]
              refine wpAnyH_take (i := 7) (v := ?_) rfl (by kernel_rfl) (by kernel_rfl) (by kernel_rfl) (fun _ _ _ h => h) (Or.inl ⟨by rfl, ?_⟩) (by assumption) ?_
              rotate_left
              · intro w hSw
                (try dsimp only at hSw)
                go_simp
                try with_reducible rfl
              try simp only [Act.put, List.getElem_toArray, List.getElem_cons_zero, List.getElem_cons_succ, List.setIfInBounds_toArray, List.set_cons_zero, List.set_cons_succ]
              refine wpAnyH_take (i := 10) (v := ?_) rfl (by kernel_rfl) (by kernel_rfl) (by kernel_rfl) (fun _ _ _ h => h) (Or.inl ⟨by rfl, ?_⟩) (by assumption) ?_
              rotate_left
              · intro w hSw
                (try dsimp only at hSw)
                go_simp
                try with_reducible rfl
              try simp only [Act.put, List.getElem_toArray, List.getElem_cons_zero, List.getElem_cons_succ, List.setIfInBounds_toArray, List.set_cons_zero, List.set_cons_succ]
              refine wpAnyH_take (i := 11) (v := ?_) rfl (by kernel_rfl) (by kernel_rfl) (by kernel_rfl) (fun _ _ _ h => h) (Or.inl ⟨by rfl, ?_⟩) (by assumption) ?_
              rotate_left
              · intro w hSw
                (try dsimp only at hSw)
                go_simp
                try with_reducible rfl
              try simp only [Act.put, List.getElem_toArray, List.getElem_cons_zero, List.getElem_cons_succ, List.setIfInBounds_toArray, List.set_cons_zero, List.set_cons_succ]
              refine wpAnyH_take (i := 15) (v := ?_) rfl (by kernel_rfl) (by kernel_rfl) (by kernel_rfl) (fun _ _ _ h => h) (Or.inl ⟨by rfl, ?_⟩) (by assumption) ?_
              rotate_left
              · intro w hSw
                (try dsimp only at hSw)
                go_simp
                try with_reducible rfl
              try simp only [Act.put, List.getElem_toArray, List.getElem_cons_zero, List.getElem_cons_succ, List.setIfInBounds_toArray, List.set_cons_zero, List.set_cons_succ]
              refine wpAnyH_take (i := 16) (v := ?_) rfl (by kernel_rfl) (by kernel_rfl) (by kernel_rfl) (fun _ _ _ h => h) (Or.inl ⟨by rfl, ?_⟩) (by assumption) ?_
              rotate_left
              · intro w hSw
                (try dsimp only at hSw)
                go_simp
                try with_reducible rfl
              try simp only [Act.put, List.getElem_toArray, List.getElem_cons_zero, List.getElem_cons_succ, List.setIfInBounds_toArray, List.set_cons_zero, List.set_cons_succ]
              refine wpAnyH_take (i := 19) (v := ?_) rfl (by kernel_rfl) (by kernel_rfl) (by kernel_rfl) (fun _ _ _ h => h) (Or.inl ⟨by rfl, ?_⟩) (by assumption) ?_
              rotate_left
              · intro w hSw
                (try dsimp only at hSw)
                go_simp
                try with_reducible rfl
              try simp only [Act.put, List.getElem_toArray, List.getElem_cons_zero, List.getElem_cons_succ, List.setIfInBounds_toArray, List.set_cons_zero, List.set_cons_succ]
              refine wpAnyH_take (i := 20) (v := ?_) rfl (by kernel_rfl) (by kernel_rfl) (by kernel_rfl) (fun _ _ _ h => h) (Or.inl ⟨by rfl, ?_⟩) (by assumption) ?_
              rotate_left
              · intro w hSw
                (try dsimp only at hSw)
                go_simp
                try with_reducible rfl
              try simp only [Act.put, List.getElem_toArray, List.getElem_cons_zero, List.getElem_cons_succ, List.setIfInBounds_toArray, List.set_cons_zero, List.set_cons_succ]
              refine wpAnyH_take (i := 24) (v := ?_) rfl (by kernel_rfl) (by kernel_rfl) (by kernel_rfl) (fun _ _ _ h => h) (Or.inl ⟨by rfl, ?_⟩) (by assumption) ?_
              rotate_left
              · intro w hSw
                (try dsimp only at hSw)
                go_simp
                try with_reducible rfl
              try simp only [Act.put, List.getElem_toArray, List.getElem_cons_zero, List.getElem_cons_succ, List.setIfInBounds_toArray, List.set_cons_zero, List.set_cons_succ]
              refine wpAnyH_take (i := 25) (v := ?_) rfl (by kernel_rfl) (by kernel_rfl) (by kernel_rfl) (fun _ _ _ h => h) (Or.inl ⟨by rfl, ?_⟩) (by assumption) ?_
              rotate_left
              · intro w hSw
                (try dsimp only at hSw)
                go_simp
                try with_reducible rfl
              try simp only [Act.put, List.getElem_toArray, List.getElem_cons_zero, List.getElem_cons_succ, List.setIfInBounds_toArray, List.set_cons_zero, List.set_cons_succ]
              refine wpAnyH_take (i := 26) (v := ?_) rfl (by kernel_rfl) (by kernel_rfl) (by kernel_rfl) (fun _ _ _ h => h) (Or.inl ⟨by rfl, ?_⟩) (by assumption) ?_
              rotate_left
              · intro w hSw
                (try dsimp only at hSw)
                go_simp
                try with_reducible rfl
              try simp only [Act.put, List.getElem_toArray, List.getElem_cons_zero, List.getElem_cons_succ, List.setIfInBounds_toArray, List.set_cons_zero, List.set_cons_succ]
              refine wpAnyH_take (i := 27) (v := ?_) rfl (by kernel_rfl) (by kernel_rfl) (by kernel_rfl) (fun _ _ _ h => h) (Or.inl ⟨by rfl, ?_⟩) (by assumption) ?_
              rotate_left
              · intro w hSw
                (try dsimp only at hSw)
                go_simp
                try with_reducible rfl
              try simp only [Act.put, List.getElem_toArray, List.getElem_cons_zero, List.getElem_cons_succ, List.setIfInBounds_toArray, List.set_cons_zero, List.set_cons_succ]
              refine wpAnyH_take (i := 28) (v := ?_) rfl (by kernel_rfl) (by kernel_rfl) (by kernel_rfl) (fun _ _ _ h => h) (Or.inl ⟨by rfl, ?_⟩) (by assumption) ?_
              rotate_left
              · intro w hSw
                (try dsimp only at hSw)
                go_simp
                try with_reducible rfl
              try simp only [Act.put, List.getElem_toArray, List.getElem_cons_zero, List.getElem_cons_succ, List.setIfInBounds_toArray, List.set_cons_zero, List.set_cons_succ]
              refine wpAnyH_take (i := 29) (v := ?_) rfl (by kernel_rfl) (by kernel_rfl) (by kernel_rfl) (fun _ _ _ h => h) (Or.inl ⟨by rfl, ?_⟩) (by assumption) ?_
              rotate_left
              · intro w hSw
                (try dsimp only at hSw)
                go_simp
                try with_reducible rfl
              try simp only [Act.put, List.getElem_toArray, List.getElem_cons_zero, List.getElem_cons_succ, List.setIfInBounds_toArray, List.set_cons_zero, List.set_cons_succ]
              refine wpAnyH_take (i := 30) (v := ?_) rfl (by kernel_rfl) (by kernel_rfl) (by kernel_rfl) (fun _ _ _ h => h) (Or.inl ⟨by rfl, ?_⟩) (by assumption) ?_
              rotate_left
              · intro w hSw
                (try dsimp only at hSw)
                go_simp
                try with_reducible rfl
              try simp only [Act.put, List.getElem_toArray, List.getElem_cons_zero, List.getElem_cons_succ, List.setIfInBounds_toArray, List.set_cons_zero, List.set_cons_succ]
              refine wpAnyH_take (i := 32) (v := ?_) rfl (by kernel_rfl) (by kernel_rfl) (by kernel_rfl) (fun _ _ _ h => h) (Or.inl ⟨by rfl, ?_⟩) (by assumption) ?_
              rotate_left
              · intro w hSw
                (try dsimp only at hSw)
                go_simp
                try with_reducible rfl
              try simp only [Act.put, List.getElem_toArray, List.getElem_cons_zero, List.getElem_cons_succ, List.setIfInBounds_toArray, List.set_cons_zero, List.set_cons_succ]
              refine wpAnyH_take (i := 33) (v := ?_) rfl (by kernel_rfl) (by kernel_rfl) (by kernel_rfl) (fun _ _ _ h => h) (Or.inl ⟨by rfl, ?_⟩) (by assumption) ?_
              rotate_left
              · intro w hSw
                (try dsimp only at hSw)
                go_simp
                try with_reducible rfl
              try simp only [Act.put, List.getElem_toArray, List.getElem_cons_zero, List.getElem_cons_succ, List.setIfInBounds_toArray, List.set_cons_zero, List.set_cons_succ]
              refine wpAnyH_take (i := 35) (v := ?_) rfl (by kernel_rfl) (by kernel_rfl) (by kernel_rfl) (fun _ _ _ h => h) (Or.inl ⟨by rfl, ?_⟩) (by assumption) ?_
              rotate_left
              · intro w hSw
                (try dsimp only at hSw)
                go_simp
                try with_reducible rfl
              try simp only [Act.put, List.getElem_toArray, List.getElem_cons_zero, List.getElem_cons_succ, List.setIfInBounds_toArray, List.set_cons_zero, List.set_cons_succ]
              refine wpAnyH_take (i := 37) (v := ?_) rfl (by kernel_rfl) (by kernel_rfl) (by kernel_rfl) (fun _ _ _ h => h) (Or.inl ⟨by rfl, ?_⟩) (by assumption) ?_
              rotate_left
              · intro w hSw
                (try dsimp only at hSw)
                go_simp
                try with_reducible rfl
              try simp only [Act.put, List.getElem_toArray, List.getElem_cons_zero, List.getElem_cons_succ, List.setIfInBounds_toArray, List.set_cons_zero, List.set_cons_succ]
              refine wpAnyH_take (i := 38) (v := ?_) rfl (by kernel_rfl) (by kernel_rfl) (by kernel_rfl) (fun _ _ _ h => h) (Or.inl ⟨by rfl, ?_⟩) (by assumption) ?_
              rotate_left
              · intro w hSw
                (try dsimp only at hSw)
                go_simp
                try with_reducible rfl
              try simp only [Act.put, List.getElem_toArray, List.getElem_cons_zero, List.getElem_cons_succ, List.setIfInBounds_toArray, List.set_cons_zero, List.set_cons_succ]
              refine wpAnyH_take (i := 39) (v := ?_) rfl (by kernel_rfl) (by kernel_rfl) (by kernel_rfl) (fun _ _ _ h => h) (Or.inl ⟨by rfl, ?_⟩) (by assumption) ?_
              rotate_left
              · intro w hSw
                (try dsimp only at hSw)
                go_simp
                try with_reducible rfl
              try simp only [Act.put, List.getElem_toArray, List.getElem_cons_zero, List.getElem_cons_succ, List.setIfInBounds_toArray, List.set_cons_zero, List.set_cons_succ]
              refine wpAnyH_ready (rs := [2, 36]) (by kernel_rfl) (by simp) ?_
              refine AllReadyH.cons rfl (fun K hK => ?_) (AllReadyH.cons rfl (fun K hK => ?_) AllReadyH.nil)
              · go_simp
                refine (num_n (off := off) 0 (off) 2 c _ (RR0.bs hP HSW.out) rfl (by rw [HN.out]; omega) (by omega)).mono ?_
                rw [EV0.out]
                rintro e w20 ⟨rfl, hd⟩
                have hP := RR0.dn hP hd
                refine hK _ _ ?_ (fun hHeld => ?_)
                · exact RR0.cell hP HCW.out
                clear hK K hd
                try simp only [Act.put, List.getElem_toArray, List.getElem_cons_zero, List.getElem_cons_succ, List.setIfInBounds_toArray, List.set_cons_zero, List.set_cons_succ]
                refine wpAnyH_ready (rs := [5, 36]) (by kernel_rfl) (by simp) ?_
                refine AllReadyH.cons rfl (fun K hK => ?_) (AllReadyH.cons rfl (fun K hK => ?_) AllReadyH.nil)
                · go_simp
                  refine (num_n (off := off) 2 (off + 2) 2 (c - 2) _ (RR0.bs hP HSW.out) rfl (by rw [HN.out]; omega) (by omega)).mono ?_
                  rw [EV2.out]
                  rintro e w21 ⟨rfl, hd⟩
                  have hP := RR0.dn hP hd
                  refine hK _ _ ?_ (fun hHeld => ?_)
                  · exact RR0.cell hP HCW.out
                  clear hK K hd
                  try simp only [Act.put, List.getElem_toArray, List.getElem_cons_zero, List.getElem_cons_succ, List.setIfInBounds_toArray, List.set_cons_zero, List.set_cons_succ]
                  refine wpAnyH_ready (rs := [8, 36]) (by kernel_rfl) (by simp) ?_
                  refine AllReadyH.cons rfl (fun K hK => ?_) (AllReadyH.cons rfl (fun K hK => ?_) AllReadyH.nil)
                  · go_simp
                    refine (num_n (off := off) 4 (off + 4) 2 (c - 4) _ (RR0.bs hP HSW.out) rfl (by rw [HN.out]; omega) (by omega)).mono ?_
                    rw [EV4.out]
                    rintro e w22 ⟨rfl, hd⟩
                    have hP := RR0.dn hP hd
                    refine hK _ _ ?_ (fun hHeld => ?_)
                    · exact RR0.cell hP HCW.out
                    clear hK K hd
                    try simp only [Act.put, List.getElem_toArray, List.getElem_cons_zero, List.getElem_cons_succ, List.setIfInBounds_toArray, List.set_cons_zero, List.set_cons_succ]
                    refine wpAnyH_take (i := 9) (v := ?_) rfl (by kernel_rfl) (by kernel_rfl) (by kernel_rfl) (fun _ _ _ h => h) (Or.inl ⟨by rfl, ?_⟩) (by assumption) ?_
                    rotate_left
                    · intro w hSw
                      (try dsimp only at hSw)
                      go_simp
                      try with_reducible rfl
                    try simp only [Act.put, List.getElem_toArray, List.getElem_cons_zero, List.getElem_cons_succ, List.setIfInBounds_toArray, List.set_cons_zero, List.set_cons_succ]
                    refine wpAnyH_ready (rs := [12, 36]) (by kernel_rfl) (by simp) ?_
                    refine AllReadyH.cons rfl (fun K hK => ?_) (AllReadyH.cons rfl (fun K hK => ?_) AllReadyH.nil)
                    · go_simp
                      refine (num_n (off := off) 6 (off + 6) 2 (c - 6) _ (RR0.bs hP HSW.out) rfl (by rw [HN.out]; omega) (by omega)).mono ?_
                      rw [EV6.out]
                      rintro e w23 ⟨rfl, hd⟩
                      have hP := RR0.dn hP hd
                      refine hK _ _ ?_ (fun hHeld => ?_)
                      · exact RR0.cell hP HCW.out
                      clear hK K hd
                      try simp only [Act.put, List.getElem_toArray, List.getElem_cons_zero, List.getElem_cons_succ, List.setIfInBounds_toArray, List.set_cons_zero, List.set_cons_succ]
                      refine wpAnyH_take (i := 13) (v := ?_) rfl (by kernel_rfl) (by kernel_rfl) (by kernel_rfl) (fun _ _ _ h => h) (Or.inl ⟨by rfl, ?_⟩) (by assumption) ?_
                      rotate_left
                      · intro w hSw
                        (try dsimp only at hSw)
                        go_simp
                        try with_reducible rfl
                      try simp only [Act.put, List.getElem_toArray, List.getElem_cons_zero, List.getElem_cons_succ, List.setIfInBounds_toArray, List.set_cons_zero, List.set_cons_succ]
                      refine wpAnyH_take (i := 14) (v := ?_) rfl (by kernel_rfl) (by kernel_rfl) (by kernel_rfl) (fun _ _ _ h => h) (Or.inl ⟨by rfl, ?_⟩) (by assumption) ?_
                      rotate_left
                      · intro w hSw
                        (try dsimp only at hSw)
                        go_simp
                        try with_reducible rfl
                      try simp only [Act.put, List.getElem_toArray, List.getElem_cons_zero, List.getElem_cons_succ, List.setIfInBounds_toArray, List.set_cons_zero, List.set_cons_succ]
                      refine wpAnyH_ready (rs := [17, 36]) (by kernel_rfl) (by simp) ?_
                      refine AllReadyH.cons rfl (fun K hK => ?_) (AllReadyH.cons rfl (fun K hK => ?_) AllReadyH.nil)
                      · go_simp
                        refine (num_n (off := off) 8 (off + 8) 2 (c - 8) _ (RR0.bs hP HSW.out) rfl (by rw [HN.out]; omega) (by omega)).mono ?_
                        rw [EV8.out]
                        rintro e w24 ⟨rfl, hd⟩
                        have hP := RR0.dn hP hd
                        refine hK _ _ ?_ (fun hHeld => ?_)
                        · exact RR0.cell hP HCW.out
                        clear hK K hd
                        try simp only [Act.put, List.getElem_toArray, List.getElem_cons_zero, List.getElem_cons_succ, List.setIfInBounds_toArray, List.set_cons_zero, List.set_cons_succ]
                        refine wpAnyH_take (i := 18) (v := ?_) rfl (by kernel_rfl) (by kernel_rfl) (by kernel_rfl) (fun _ _ _ h => h) (Or.inl ⟨by rfl, ?_⟩) (by assumption) ?_
                        rotate_left
                        · intro w hSw
                          (try dsimp only at hSw)
                          go_simp
                          try with_reducible rfl
                        try simp only [Act.put, List.getElem_toArray, List.getElem_cons_zero, List.getElem_cons_succ, List.setIfInBounds_toArray, List.set_cons_zero, List.set_cons_succ]
                        refine wpAnyH_ready (rs := [21, 36]) (by kernel_rfl) (by simp) ?_
                        refine AllReadyH.cons rfl (fun K hK => ?_) (AllReadyH.cons rfl (fun K hK => ?_) AllReadyH.nil)
                        · go_simp
                          refine (num_n (off := off) 10 (off + 10) 2 (c - 10) _ (RR0.bs hP HSW.out) rfl (by rw [HN.out]; omega) (by omega)).mono ?_
                          rw [EV10.out]
                          rintro e w25 ⟨rfl, hd⟩
                          have hP := RR0.dn hP hd
                          refine hK _ _ ?_ (fun hHeld => ?_)
                          · exact RR0.cell hP HCW.out
                          clear hK K hd
                          try simp only [Act.put, List.getElem_toArray, List.getElem_cons_zero, List.getElem_cons_succ, List.setIfInBounds_toArray, List.set_cons_zero, List.set_cons_succ]
                          refine wpAnyH_take (i := 22) (v := ?_) rfl (by kernel_rfl) (by kernel_rfl) (by kernel_rfl) (fun _ _ _ h => h) (Or.inl ⟨by rfl, ?_⟩) (by assumption) ?_
                          rotate_left
                          · intro w hSw
                            (try dsimp only at hSw)
                            go_simp
                            try with_reducible rfl
                          try simp only [Act.put, List.getElem_toArray, List.getElem_cons_zero, List.getElem_cons_succ, List.setIfInBounds_toArray, List.set_cons_zero, List.set_cons_succ]
                          refine wpAnyH_take (i := 23) (v := ?_) rfl (by kernel_rfl) (by kernel_rfl) (by kernel_rfl) (fun _ _ _ h => h) (Or.inl ⟨by rfl, ?_⟩) (by assumption) ?_
                          rotate_left
                          · intro w hSw
                            (try dsimp only at hSw)
                            go_simp
                            try with_reducible rfl
                          try simp only [Act.put, List.getElem_toArray, List.getElem_cons_zero, List.getElem_cons_succ, List.setIfInBounds_toArray, List.set_cons_zero, List.set_cons_succ]
                          refine wpAnyH_ready (rs := [31, 36]) (by kernel_rfl) (by simp) ?_
                          refine AllReadyH.cons rfl (fun K hK => ?_) (AllReadyH.cons rfl (fun K hK => ?_) AllReadyH.nil)
                          · go_simp
                            refine (num_n (off := off) 14 (off + 14) 2 (c - 14) _ (RR0.bs hP HSW.out) rfl (by rw [HN.out]; omega) (by omega)).mono ?_
                            rw [EV14.out]
                            rintro e w26 ⟨rfl, hd⟩
                            have hP := RR0.dn hP hd
                            refine hK _ _ ?_ (fun hHeld => ?_)
                            · exact RR0.cell hP HCW.out
                            clear hK K hd
                            try simp only [Act.put, List.getElem_toArray, List.getElem_cons_zero, List.getElem_cons_succ, List.setIfInBounds_toArray, List.set_cons_zero, List.set_cons_succ]
                            refine wpAnyH_ready (rs := [34, 36]) (by kernel_rfl) (by simp) ?_
                            refine AllReadyH.cons rfl (fun K hK => ?_) (AllReadyH.cons rfl (fun K hK => ?_) AllReadyH.nil)
                            · go_simp
                              refine (num_n (off := off) 18 (off + 18) 2 (c - 18) _ (RR0.bs hP HSW.out) rfl (by rw [HN.out]; omega) (by omega)).mono ?_
                              rw [EV18.out]
                              rintro e w27 ⟨rfl, hd⟩
                              have hP := RR0.dn hP hd
                              refine hK _ _ ?_ (fun hHeld => ?_)
                              · exact RR0.cell hP HCW.out
                              clear hK K hd
                              try simp only [Act.put, List.getElem_toArray, List.getElem_cons_zero, List.getElem_cons_succ, List.setIfInBounds_toArray, List.set_cons_zero, List.set_cons_succ]
                              refine wpAnyH_ready (rs := [36]) (by kernel_rfl) (by simp) ?_
                              refine AllReadyH.cons rfl (fun K hK => ?_) AllReadyH.nil
                              go_simp
                              have hE := rr_2 hP
                              have hP := RR0.al (ob := .cells #[] 5) hP
                              refine hK _ _ ?_ (fun hHeld => ?_)
                              · exact RR0.cell hP HCW.out
                              clear hK K
                              try simp only [Act.put, List.getElem_toArray, List.getElem_cons_zero, List.getElem_cons_succ, List.setIfInBounds_toArray, List.set_cons_zero, List.set_cons_succ]
                              refine wpAnyH_ready (rs := [40]) (by kernel_rfl) (by simp) ?_
                              refine AllReadyH.cons rfl (fun K hK => ?_) AllReadyH.nil
                              refine step_appn _ (by rfl) _ _ (by rfl) (w.heap.size + 1) _ 0 [] 0 rfl (by rfl) (ee_own hE) ZA (c - sz) (bs.drop sz) (n - sz) HLD.out (by rfl) (RR0.sl hP HZA.out) (by rw [HLD.out]; simp; omega) (RR0.lt hP) ?_
                              intro A2 c2 w5 hown hgrow
                              have hP := RR0.grown hP hE hgrow
                              have hC := RR0.cell hP HCW.out
                              refine hK _ _ ?_ (fun hHeld => ?_)
                              · exact hC
                              clear hK K
                              try simp only [Act.put, List.getElem_toArray, List.getElem_cons_zero, List.getElem_cons_succ, List.setIfInBounds_toArray, List.set_cons_zero, List.set_cons_succ]
                              refine wpAnyH_take (i := 41) (v := ?_) rfl (by kernel_rfl) (by kernel_rfl) (by kernel_rfl) (fun _ _ _ h => h) (Or.inl ⟨by rfl, ?_⟩) (by assumption) ?_
                              rotate_left
                              · intro w hSw
                                (try dsimp only at hSw)
                                go_simp
                                try with_reducible rfl
                              try simp only [Act.put, List.getElem_toArray, List.getElem_cons_zero, List.getElem_cons_succ, List.setIfInBounds_toArray, List.set_cons_zero, List.set_cons_succ]
                              obtain ⟨va, EVA⟩ : ∃ v : Nat, Hid (v4 * 65536 + v6 = v) := ⟨_, rfl⟩
                              obtain ⟨vb, EVB⟩ : ∃ v : Nat, Hid (v8 * 65536 + v10 = v) := ⟨_, rfl⟩
                              rw [EVA.out] at E4 UA
                              rw [EVB.out] at E8 UB
                              have hbk := Lib.hid hP.2
                              obtain ⟨x0, x1, x2, x3, x4, x5, x6, x7, x8⟩ := hbk.out.cells9
                              obtain ⟨y0, y1, y2, y3, y4, y5, y6, y7, y8⟩ := hbk.out.frees9
                              rw [UA.out, UB.out]
                              have st := hbk.out.store9 (.int .i64 (v0 : Int)) (.int .i64 (v2 : Int)) (.int .u32 (va : Int)) (.int .u32 (vb : Int)) (.int .i64 (z63 : Int)) (.int .i64 (v14 : Int)) (.int .i64 (v18 : Int)) (.int .i64 (m : Int)) (.slice A2 (n - sz) c2)
                              have HO := Lib.hid ((hown.grown hbk.out (by decide) st.2).sl)
                              have HF := Lib.hid (below_grown hP.1 st.2 (Nat.le_refl _) (Nat.le_refl _))
                              have HK := Lib.hid st.1
                              have HG := Lib.hid st.2
                              clear st
                              refine wpAnyH_ready (rs := [42]) (by kernel_rfl) (by simp) ?_
                              refine AllReadyH.cons rfl (fun K hK => ?_) AllReadyH.nil
                              go_simp
                              refine hK _ _ ?_ (fun hHeld => ?_)
                              · exact (HG.out.cell_far _ (by have := World.block_lt_of_cell? _ _ hC; simpa using this) (by simp; omega)).trans hC
                              clear hK K hown hgrow hP hbk hC HG x0 x1 x2 x3 x4 x5 x6 x7 x8 y0 y1 y2 y3 y4 y5 y6 y7 y8
                              generalize World.setCell _ _ (Value.slice A2 (n - sz) c2) = w6 at HK HO HF hHeld ⊢
                              refine wpAnyH_take (i := 43) (v := ?_) rfl (by kernel_rfl) (by kernel_rfl) (by kernel_rfl) (fun _ _ _ h => h) (Or.inl ⟨by rfl, ?_⟩) (by assumption) ?_
                              rotate_left
                              · intro w hSw
                                (try dsimp only at hSw)
                                go_simp
                                try with_reducible rfl
                              try simp only [Act.put, List.getElem_toArray, List.getElem_cons_zero, List.getElem_cons_succ, List.setIfInBounds_toArray, List.set_cons_zero, List.set_cons_succ]
                              refine wpAnyH_done (by kernel_rfl) ?_ _
                              obtain ⟨d0, d1, d2, d3, d4, d5, d6, d7, d8⟩ := HK.out.cells9
                              go_wp2_with fail
                              exact bodyPost_ret (v := .tuple #[.agg #[.int .i64 (v0 : Int), .int .i64 (v2 : Int), .int .u32 (va : Int), .int .u32 (vb : Int), .int .i64 (z63 : Int), .int .i64 (v14 : Int), .int .i64 (v18 : Int), .int .i64 (m : Int), .slice A2 (n - sz) c2], .int .i64 0]) (by simp [results, Try.results16, go_sem, d0, d1, d2, d3, d4, d5, d6, d7, d8]) rfl (sgot_val HOK.out HGR.out HSZ.out HLD.out EV0.out EV2.out E4.out E8.out E13.out EZ63.out EV14.out EV18.out (by exact HO.out) HF.out)
                            · go_simp
                              have hE := rr_2 hP
                              have hP := RR0.al (ob := .cells #[] 5) hP
                              refine hK _ _ ?_ (fun hHeld => ?_)
                              · exact RR0.cell hP HCW.out
                              clear hK K
                              try simp only [Act.put, List.getElem_toArray, List.getElem_cons_zero, List.getElem_cons_succ, List.setIfInBounds_toArray, List.set_cons_zero, List.set_cons_succ]
                              refine wpAnyH_ready (rs := [34]) (by kernel_rfl) (by simp) ?_
                              refine AllReadyH.cons rfl (fun K hK => ?_) AllReadyH.nil
                              go_simp
                              refine (num_n (off := off) 18 (off + 18) 2 (c - 18) _ (RR0.bs hP HSW.out) rfl (by rw [HN.out]; omega) (by omega)).mono ?_
                              rw [EV18.out]
                              rintro e w27 ⟨rfl, hd⟩
                              have hP := RR0.dn hP hd
                              have hE := ee_d hE hd
                              refine hK _ _ ?_ (fun hHeld => ?_)
                              · exact RR0.cell hP HCW.out
                              clear hK K hd
                              try simp only [Act.put, List.getElem_toArray, List.getElem_cons_zero, List.getElem_cons_succ, List.setIfInBounds_toArray, List.set_cons_zero, List.set_cons_succ]
                              refine wpAnyH_ready (rs := [40]) (by kernel_rfl) (by simp) ?_
                              refine AllReadyH.cons rfl (fun K hK => ?_) AllReadyH.nil
                              refine step_appn _ (by rfl) _ _ (by rfl) (w.heap.size + 1) _ 0 [] 0 rfl (by rfl) (ee_own hE) ZA (c - sz) (bs.drop sz) (n - sz) HLD.out (by rfl) (RR0.sl hP HZA.out) (by rw [HLD.out]; simp; omega) (RR0.lt hP) ?_
                              intro A2 c2 w5 hown hgrow
                              have hP := RR0.grown hP hE hgrow
                              have hC := RR0.cell hP HCW.out
                              refine hK _ _ ?_ (fun hHeld => ?_)
                              · exact hC
                              clear hK K
                              try simp only [Act.put, List.getElem_toArray, List.getElem_cons_zero, List.getElem_cons_succ, List.setIfInBounds_toArray, List.set_cons_zero, List.set_cons_succ]
                              refine wpAnyH_take (i := 41) (v := ?_) rfl (by kernel_rfl) (by kernel_rfl) (by kernel_rfl) (fun _ _ _ h => h) (Or.inl ⟨by rfl, ?_⟩) (by assumption) ?_
                              rotate_left
                              · intro w hSw
                                (try dsimp only at hSw)
                                go_simp
                                try with_reducible rfl
                              try simp only [Act.put, List.getElem_toArray, List.getElem_cons_zero, List.getElem_cons_succ, List.setIfInBounds_toArray, List.set_cons_zero, List.set_cons_succ]
                              obtain ⟨va, EVA⟩ : ∃ v : Nat, Hid (v4 * 65536 + v6 = v) := ⟨_, rfl⟩
                              obtain ⟨vb, EVB⟩ : ∃ v : Nat, Hid (v8 * 65536 + v10 = v) := ⟨_, rfl⟩
                              rw [EVA.out] at E4 UA
                              rw [EVB.out] at E8 UB
                              have hbk := Lib.hid hP.2
                              obtain ⟨x0, x1, x2, x3, x4, x5, x6, x7, x8⟩ := hbk.out.cells9
                              obtain ⟨y0, y1, y2, y3, y4, y5, y6, y7, y8⟩ := hbk.out.frees9
                              rw [UA.out, UB.out]
                              have st := hbk.out.store9 (.int .i64 (v0 : Int)) (.int .i64 (v2 : Int)) (.int .u32 (va : Int)) (.int .u32 (vb : Int)) (.int .i64 (z63 : Int)) (.int .i64 (v14 : Int)) (.int .i64 (v18 : Int)) (.int .i64 (m : Int)) (.slice A2 (n - sz) c2)
                              have HO := Lib.hid ((hown.grown hbk.out (by decide) st.2).sl)
                              have HF := Lib.hid (below_grown hP.1 st.2 (Nat.le_refl _) (Nat.le_refl _))
                              have HK := Lib.hid st.1
                              have HG := Lib.hid st.2
                              clear st
                              refine wpAnyH_ready (rs := [42]) (by kernel_rfl) (by simp) ?_
                              refine AllReadyH.cons rfl (fun K hK => ?_) AllReadyH.nil
                              go_simp
                              refine hK _ _ ?_ (fun hHeld => ?_)
                              · exact (HG.out.cell_far _ (by have := World.block_lt_of_cell? _ _ hC; simpa using this) (by simp; omega)).trans hC
                              clear hK K hown hgrow hP hbk hC HG x0 x1 x2 x3 x4 x5 x6 x7 x8 y0 y1 y2 y3 y4 y5 y6 y7 y8
                              generalize World.setCell _ _ (Value.slice A2 (n - sz) c2) = w6 at HK HO HF hHeld ⊢
                              refine wpAnyH_take (i := 43) (v := ?_) rfl (by kernel_rfl) (by kernel_rfl) (by kernel_rfl) (fun _ _ _ h => h) (Or.inl ⟨by rfl, ?_⟩) (by assumption) ?_
                              rotate_left
                              · intro w hSw
                                (try dsimp only at hSw)
                                go_simp
                                try with_reducible rfl
                              try simp only [Act.put, List.getElem_toArray, List.getElem_cons_zero, List.getElem_cons_succ, List.setIfInBounds_toArray, List.set_cons_zero, List.set_cons_succ]
                              refine wpAnyH_done (by kernel_rfl) ?_ _
                              obtain ⟨d0, d1, d2, d3, d4, d5, d6, d7, d8⟩ := HK.out.cells9
                              go_wp2_with fail
                              exact bodyPost_ret (v := .tuple #[.agg #[.int .i64 (v0 : Int), .int .i64 (v2 : Int), .int .u32 (va : Int), .int .u32 (vb : Int), .int .i64 (z63 : Int), .int .i64 (v14 : Int), .int .i64 (v18 : Int), .int .i64 (m : Int), .slice A2 (n - sz) c2], .int .i64 0]) (by simp [results, Try.results16, go_sem, d0, d1, d2, d3, d4, d5, d6, d7, d8]) rfl (sgot_val HOK.out HGR.out HSZ.out HLD.out EV0.out EV2.out E4.out E8.out E13.out EZ63.out EV14.out EV18.out (by exact HO.out) HF.out)
                          · go_simp
                            have hE := rr_2 hP
                            have hP := RR0.al (ob := .cells #[] 5) hP
                            refine hK _ _ ?_ (fun hHeld => ?_)
                            · exact RR0.cell hP HCW.out
                            clear hK K
                            try simp only [Act.put, List.getElem_toArray, List.getElem_cons_zero, List.getElem_cons_succ, List.setIfInBounds_toArray, List.set_cons_zero, List.set_cons_succ]
                            refine wpAnyH_ready (rs := [31]) (by kernel_rfl) (by simp) ?_
                            refine AllReadyH.cons rfl (fun K hK => ?_) AllReadyH.nil
                            go_simp
                            refine (num_n (off := off) 14 (off + 14) 2 (c - 14) _ (RR0.bs hP HSW.out) rfl (by rw [HN.out]; omega) (by omega)).mono ?_
                            rw [EV14.out]
                            rintro e w26 ⟨rfl, hd⟩
                            have hP := RR0.dn hP hd
                            have hE := ee_d hE hd
                            refine hK _ _ ?_ (fun hHeld => ?_)
                            · exact RR0.cell hP HCW.out
                            clear hK K hd
                            try simp only [Act.put, List.getElem_toArray, List.getElem_cons_zero, List.getElem_cons_succ, List.setIfInBounds_toArray, List.set_cons_zero, List.set_cons_succ]
                            refine wpAnyH_ready (rs := [34]) (by kernel_rfl) (by simp) ?_
                            refine AllReadyH.cons rfl (fun K hK => ?_) AllReadyH.nil
                            go_simp
                            refine (num_n (off := off) 18 (off + 18) 2 (c - 18) _ (RR0.bs hP HSW.out) rfl (by rw [HN.out]; omega) (by omega)).mono ?_
                            rw [EV18.out]
                            rintro e w27 ⟨rfl, hd⟩
                            have hP := RR0.dn hP hd
                            have hE := ee_d hE hd
                            refine hK _ _ ?_ (fun hHeld => ?_)
                            · exact RR0.cell hP HCW.out
                            clear hK K hd
                            try simp only [Act.put, List.getElem_toArray, List.getElem_cons_zero, List.getElem_cons_succ, List.setIfInBounds_toArray, List.set_cons_zero, List.set_cons_succ]
                            refine wpAnyH_ready (rs := [40]) (by kernel_rfl) (by simp) ?_
                            refine AllReadyH.cons rfl (fun K hK => ?_) AllReadyH.nil
                            refine step_appn _ (by rfl) _ _ (by rfl) (w.heap.size + 1) _ 0 [] 0 rfl (by rfl) (ee_own hE) ZA (c - sz) (bs.drop sz) (n - sz) HLD.out (by rfl) (RR0.sl hP HZA.out) (by rw [HLD.out]; simp; omega) (RR0.lt hP) ?_
                            intro A2 c2 w5 hown hgrow
                            have hP := RR0.grown hP hE hgrow
                            have hC := RR0.cell hP HCW.out
                            refine hK _ _ ?_ (fun hHeld => ?_)
                            · exact hC
                            clear hK K
                            try simp only [Act.put, List.getElem_toArray, List.getElem_cons_zero, List.getElem_cons_succ, List.setIfInBounds_toArray, List.set_cons_zero, List.set_cons_succ]
                            refine wpAnyH_take (i := 41) (v := ?_) rfl (by kernel_rfl) (by kernel_rfl) (by kernel_rfl) (fun _ _ _ h => h) (Or.inl ⟨by rfl, ?_⟩) (by assumption) ?_
                            rotate_left
                            · intro w hSw
                              (try dsimp only at hSw)
                              go_simp
                              try with_reducible rfl
                            try simp only [Act.put, List.getElem_toArray, List.getElem_cons_zero, List.getElem_cons_succ, List.setIfInBounds_toArray, List.set_cons_zero, List.set_cons_succ]
                            obtain ⟨va, EVA⟩ : ∃ v : Nat, Hid (v4 * 65536 + v6 = v) := ⟨_, rfl⟩
                            obtain ⟨vb, EVB⟩ : ∃ v : Nat, Hid (v8 * 65536 + v10 = v) := ⟨_, rfl⟩
                            rw [EVA.out] at E4 UA
                            rw [EVB.out] at E8 UB
                            have hbk := Lib.hid hP.2
                            obtain ⟨x0, x1, x2, x3, x4, x5, x6, x7, x8⟩ := hbk.out.cells9
                            obtain ⟨y0, y1, y2, y3, y4, y5, y6, y7, y8⟩ := hbk.out.frees9
                            rw [UA.out, UB.out]
                            have st := hbk.out.store9 (.int .i64 (v0 : Int)) (.int .i64 (v2 : Int)) (.int .u32 (va : Int)) (.int .u32 (vb : Int)) (.int .i64 (z63 : Int)) (.int .i64 (v14 : Int)) (.int .i64 (v18 : Int)) (.int .i64 (m : Int)) (.slice A2 (n - sz) c2)
                            have HO := Lib.hid ((hown.grown hbk.out (by decide) st.2).sl)
                            have HF := Lib.hid (below_grown hP.1 st.2 (Nat.le_refl _) (Nat.le_refl _))
                            have HK := Lib.hid st.1
                            have HG := Lib.hid st.2
                            clear st
                            refine wpAnyH_ready (rs := [42]) (by kernel_rfl) (by simp) ?_
                            refine AllReadyH.cons rfl (fun K hK => ?_) AllReadyH.nil
                            go_simp
                            refine hK _ _ ?_ (fun hHeld => ?_)
                            · exact (HG.out.cell_far _ (by have := World.block_lt_of_cell? _ _ hC; simpa using this) (by simp; omega)).trans hC
                            clear hK K hown hgrow hP hbk hC HG x0 x1 x2 x3 x4 x5 x6 x7 x8 y0 y1 y2 y3 y4 y5 y6 y7 y8
                            generalize World.setCell _ _ (Value.slice A2 (n - sz) c2) = w6 at HK HO HF hHeld ⊢
                            refine wpAnyH_take (i := 43) (v := ?_) rfl (by kernel_rfl) (by kernel_rfl) (by kernel_rfl) (fun _ _ _ h => h) (Or.inl ⟨by rfl, ?_⟩) (by assumption) ?_
                            rotate_left
                            · intro w hSw
                              (try dsimp only at hSw)
                              go_simp
                              try with_reducible rfl
                            try simp only [Act.put, List.getElem_toArray, List.getElem_cons_zero, List.getElem_cons_succ, List.setIfInBounds_toArray, List.set_cons_zero, List.set_cons_succ]
                            refine wpAnyH_done (by kernel_rfl) ?_ _
                            obtain ⟨d0, d1, d2, d3, d4, d5, d6, d7, d8⟩ := HK.out.cells9
                            go_wp2_with fail
                            exact bodyPost_ret (v := .tuple #[.agg #[.int .i64 (v0 : Int), .int .i64 (v2 : Int), .int .u32 (va : Int), .int .u32 (vb : Int), .int .i64 (z63 : Int), .int .i64 (v14 : Int), .int .i64 (v18 : Int), .int .i64 (m : Int), .slice A2 (n - sz) c2], .int .i64 0]) (by simp [results, Try.results16, go_sem, d0, d1, d2, d3, d4, d5, d6, d7, d8]) rfl (sgot_val HOK.out HGR.out HSZ.out HLD.out EV0.out EV2.out E4.out E8.out E13.out EZ63.out EV14.out EV18.out (by exact HO.out) HF.out)
                        · go_simp
                          have hE := rr_2 hP
                          have hP := RR0.al (ob := .cells #[] 5) hP
                          refine hK _ _ ?_ (fun hHeld => ?_)
                          · exact RR0.cell hP HCW.out
                          clear hK K
                          try simp only [Act.put, List.getElem_toArray, List.getElem_cons_zero, List.getElem_cons_succ, List.setIfInBounds_toArray, List.set_cons_zero, List.set_cons_succ]
                          refine wpAnyH_ready (rs := [21]) (by kernel_rfl) (by simp) ?_
                          refine AllReadyH.cons rfl (fun K hK => ?_) AllReadyH.nil
                          go_simp
                          refine (num_n (off := off) 10 (off + 10) 2 (c - 10) _ (RR0.bs hP HSW.out) rfl (by rw [HN.out]; omega) (by omega)).mono ?_
                          rw [EV10.out]
                          rintro e w25 ⟨rfl, hd⟩
                          have hP := RR0.dn hP hd
                          have hE := ee_d hE hd
                          refine hK _ _ ?_ (fun hHeld => ?_)
                          · exact RR0.cell hP HCW.out
                          clear hK K hd
                          try simp only [Act.put, List.getElem_toArray, List.getElem_cons_zero, List.getElem_cons_succ, List.setIfInBounds_toArray, List.set_cons_zero, List.set_cons_succ]
                          refine wpAnyH_take (i := 22) (v := ?_) rfl (by kernel_rfl) (by kernel_rfl) (by kernel_rfl) (fun _ _ _ h => h) (Or.inl ⟨by rfl, ?_⟩) (by assumption) ?_
                          rotate_left
                          · intro w hSw
                            (try dsimp only at hSw)
                            go_simp
                            try with_reducible rfl
                          try simp only [Act.put, List.getElem_toArray, List.getElem_cons_zero, List.getElem_cons_succ, List.setIfInBounds_toArray, List.set_cons_zero, List.set_cons_succ]
                          refine wpAnyH_take (i := 23) (v := ?_) rfl (by kernel_rfl) (by kernel_rfl) (by kernel_rfl) (fun _ _ _ h => h) (Or.inl ⟨by rfl, ?_⟩) (by assumption) ?_
                          rotate_left
                          · intro w hSw
                            (try dsimp only at hSw)
                            go_simp
                            try with_reducible rfl
                          try simp only [Act.put, List.getElem_toArray, List.getElem_cons_zero, List.getElem_cons_succ, List.setIfInBounds_toArray, List.set_cons_zero, List.set_cons_succ]
                          refine wpAnyH_ready (rs := [31]) (by kernel_rfl) (by simp) ?_
                          refine AllReadyH.cons rfl (fun K hK => ?_) AllReadyH.nil
                          go_simp
                          refine (num_n (off := off) 14 (off + 14) 2 (c - 14) _ (RR0.bs hP HSW.out) rfl (by rw [HN.out]; omega) (by omega)).mono ?_
                          rw [EV14.out]
                          rintro e w26 ⟨rfl, hd⟩
                          have hP := RR0.dn hP hd
                          have hE := ee_d hE hd
                          refine hK _ _ ?_ (fun hHeld => ?_)
                          · exact RR0.cell hP HCW.out
                          clear hK K hd
                          try simp only [Act.put, List.getElem_toArray, List.getElem_cons_zero, List.getElem_cons_succ, List.setIfInBounds_toArray, List.set_cons_zero, List.set_cons_succ]
                          refine wpAnyH_ready (rs := [34]) (by kernel_rfl) (by simp) ?_
                          refine AllReadyH.cons rfl (fun K hK => ?_) AllReadyH.nil
                          go_simp
                          refine (num_n (off := off) 18 (off + 18) 2 (c - 18) _ (RR0.bs hP HSW.out) rfl (by rw [HN.out]; omega) (by omega)).mono ?_
                          rw [EV18.out]
                          rintro e w27 ⟨rfl, hd⟩
                          have hP := RR0.dn hP hd
                          have hE := ee_d hE hd
                          refine hK _ _ ?_ (fun hHeld => ?_)
                          · exact RR0.cell hP HCW.out
                          clear hK K hd
                          try simp only [Act.put, List.getElem_toArray, List.getElem_cons_zero, List.getElem_cons_succ, List.setIfInBounds_toArray, List.set_cons_zero, List.set_cons_succ]
                          refine wpAnyH_ready (rs := [40]) (by kernel_rfl) (by simp) ?_
                          refine AllReadyH.cons rfl (fun K hK => ?_) AllReadyH.nil
                          refine step_appn _ (by rfl) _ _ (by rfl) (w.heap.size + 1) _ 0 [] 0 rfl (by rfl) (ee_own hE) ZA (c - sz) (bs.drop sz) (n - sz) HLD.out (by rfl) (RR0.sl hP HZA.out) (by rw [HLD.out]; simp; omega) (RR0.lt hP) ?_
                          intro A2 c2 w5 hown hgrow
                          have hP := RR0.grown hP hE hgrow
                          have hC := RR0.cell hP HCW.out
                          refine hK _ _ ?_ (fun hHeld => ?_)
                          · exact hC
                          clear hK K
                          try simp only [Act.put, List.getElem_toArray, List.getElem_cons_zero, List.getElem_cons_succ, List.setIfInBounds_toArray, List.set_cons_zero, List.set_cons_succ]
                          refine wpAnyH_take (i := 41) (v := ?_) rfl (by kernel_rfl) (by kernel_rfl) (by kernel_rfl) (fun _ _ _ h => h) (Or.inl ⟨by rfl, ?_⟩) (by assumption) ?_
                          rotate_left
                          · intro w hSw
                            (try dsimp only at hSw)
                            go_simp
                            try with_reducible rfl
                          try simp only [Act.put, List.getElem_toArray, List.getElem_cons_zero, List.getElem_cons_succ, List.setIfInBounds_toArray, List.set_cons_zero, List.set_cons_succ]
                          obtain ⟨va, EVA⟩ : ∃ v : Nat, Hid (v4 * 65536 + v6 = v) := ⟨_, rfl⟩
                          obtain ⟨vb, EVB⟩ : ∃ v : Nat, Hid (v8 * 65536 + v10 = v) := ⟨_, rfl⟩
                          rw [EVA.out] at E4 UA
                          rw [EVB.out] at E8 UB
                          have hbk := Lib.hid hP.2
                          obtain ⟨x0, x1, x2, x3, x4, x5, x6, x7, x8⟩ := hbk.out.cells9
                          obtain ⟨y0, y1, y2, y3, y4, y5, y6, y7, y8⟩ := hbk.out.frees9
                          rw [UA.out, UB.out]
                          have st := hbk.out.store9 (.int .i64 (v0 : Int)) (.int .i64 (v2 : Int)) (.int .u32 (va : Int)) (.int .u32 (vb : Int)) (.int .i64 (z63 : Int)) (.int .i64 (v14 : Int)) (.int .i64 (v18 : Int)) (.int .i64 (m : Int)) (.slice A2 (n - sz) c2)
                          have HO := Lib.hid ((hown.grown hbk.out (by decide) st.2).sl)
                          have HF := Lib.hid (below_grown hP.1 st.2 (Nat.le_refl _) (Nat.le_refl _))
                          have HK := Lib.hid st.1
                          have HG := Lib.hid st.2
                          clear st
                          refine wpAnyH_ready (rs := [42]) (by kernel_rfl) (by simp) ?_
                          refine AllReadyH.cons rfl (fun K hK => ?_) AllReadyH.nil
                          go_simp
                          refine hK _ _ ?_ (fun hHeld => ?_)
                          · exact (HG.out.cell_far _ (by have := World.block_lt_of_cell? _ _ hC; simpa using this) (by simp; omega)).trans hC
                          clear hK K hown hgrow hP hbk hC HG x0 x1 x2 x3 x4 x5 x6 x7 x8 y0 y1 y2 y3 y4 y5 y6 y7 y8
                          generalize World.setCell _ _ (Value.slice A2 (n - sz) c2) = w6 at HK HO HF hHeld ⊢
                          refine wpAnyH_take (i := 43) (v := ?_) rfl (by kernel_rfl) (by kernel_rfl) (by kernel_rfl) (fun _ _ _ h => h) (Or.inl ⟨by rfl, ?_⟩) (by assumption) ?_
                          rotate_left
                          · intro w hSw
                            (try dsimp only at hSw)
                            go_simp
                            try with_reducible rfl
                          try simp only [Act.put, List.getElem_toArray, List.getElem_cons_zero, List.getElem_cons_succ, List.setIfInBounds_toArray, List.set_cons_zero, List.set_cons_succ]
                          refine wpAnyH_done (by kernel_rfl) ?_ _
                          obtain ⟨d0, d1, d2, d3, d4, d5, d6, d7, d8⟩ := HK.out.cells9
                          go_wp2_with fail
                          exact bodyPost_ret (v := .tuple #[.agg #[.int .i64 (v0 : Int), .int .i64 (v2 : Int), .int .u32 (va : Int), .int .u32 (vb : Int), .int .i64 (z63 : Int), .int .i64 (v14 : Int), .int .i64 (v18 : Int), .int .i64 (m : Int), .slice A2 (n - sz) c2], .int .i64 0]) (by simp [results, Try.results16, go_sem, d0, d1, d2, d3, d4, d5, d6, d7, d8]) rfl (sgot_val HOK.out HGR.out HSZ.out HLD.out EV0.out EV2.out E4.out E8.out E13.out EZ63.out EV14.out EV18.out (by exact HO.out) HF.out)
                      · go_simp
                        have hE := rr_2 hP
                        have hP := RR0.al (ob := .cells #[] 5) hP
                        refine hK _ _ ?_ (fun hHeld => ?_)
                        · exact RR0.cell hP HCW.out
                        clear hK K
                        try simp only [Act.put, List.getElem_toArray, List.getElem_cons_zero, List.getElem_cons_succ, List.setIfInBounds_toArray, List.set_cons_zero, List.set_cons_succ]
                        refine wpAnyH_ready (rs := [17]) (by kernel_rfl) (by simp) ?_
                        refine AllReadyH.cons rfl (fun K hK => ?_) AllReadyH.nil
                        go_simp
                        refine (num_n (off := off) 8 (off + 8) 2 (c - 8) _ (RR0.bs hP HSW.out) rfl (by rw [HN.out]; omega) (by omega)).mono ?_
                        rw [EV8.out]
                        rintro e w24 ⟨rfl, hd⟩
                        have hP := RR0.dn hP hd
                        have hE := ee_d hE hd
                        refine hK _ _ ?_ (fun hHeld => ?_)
                        · exact RR0.cell hP HCW.out
                        clear hK K hd
                        try simp only [Act.put, List.getElem_toArray, List.getElem_cons_zero, List.getElem_cons_succ, List.setIfInBounds_toArray, List.set_cons_zero, List.set_cons_succ]
                        refine wpAnyH_take (i := 18) (v := ?_) rfl (by kernel_rfl) (by kernel_rfl) (by kernel_rfl) (fun _ _ _ h => h) (Or.inl ⟨by rfl, ?_⟩) (by assumption) ?_
                        rotate_left
                        · intro w hSw
                          (try dsimp only at hSw)
                          go_simp
                          try with_reducible rfl
                        try simp only [Act.put, List.getElem_toArray, List.getElem_cons_zero, List.getElem_cons_succ, List.setIfInBounds_toArray, List.set_cons_zero, List.set_cons_succ]
                        refine wpAnyH_ready (rs := [21]) (by kernel_rfl) (by simp) ?_
                        refine AllReadyH.cons rfl (fun K hK => ?_) AllReadyH.nil
                        go_simp
                        refine (num_n (off := off) 10 (off + 10) 2 (c - 10) _ (RR0.bs hP HSW.out) rfl (by rw [HN.out]; omega) (by omega)).mono ?_
                        rw [EV10.out]
                        rintro e w25 ⟨rfl, hd⟩
                        have hP := RR0.dn hP hd
                        have hE := ee_d hE hd
                        refine hK _ _ ?_ (fun hHeld => ?_)
                        · exact RR0.cell hP HCW.out
                        clear hK K hd
                        try simp only [Act.put, List.getElem_toArray, List.getElem_cons_zero, List.getElem_cons_succ, List.setIfInBounds_toArray, List.set_cons_zero, List.set_cons_succ]
                        refine wpAnyH_take (i := 22) (v := ?_) rfl (by kernel_rfl) (by kernel_rfl) (by kernel_rfl) (fun _ _ _ h => h) (Or.inl ⟨by rfl, ?_⟩) (by assumption) ?_
                        rotate_left
                        · intro w hSw
                          (try dsimp only at hSw)
                          go_simp
                          try with_reducible rfl
                        try simp only [Act.put, List.getElem_toArray, List.getElem_cons_zero, List.getElem_cons_succ, List.setIfInBounds_toArray, List.set_cons_zero, List.set_cons_succ]
                        refine wpAnyH_take (i := 23) (v := ?_) rfl (by kernel_rfl) (by kernel_rfl) (by kernel_rfl) (fun _ _ _ h => h) (Or.inl ⟨by rfl, ?_⟩) (by assumption) ?_
                        rotate_left
                        · intro w hSw
                          (try dsimp only at hSw)
                          go_simp
                          try with_reducible rfl
                        try simp only [Act.put, List.getElem_toArray, List.getElem_cons_zero, List.getElem_cons_succ, List.setIfInBounds_toArray, List.set_cons_zero, List.set_cons_succ]
                        refine wpAnyH_ready (rs := [31]) (by kernel_rfl) (by simp) ?_
                        refine AllReadyH.cons rfl (fun K hK => ?_) AllReadyH.nil
                        go_simp
                        refine (num_n (off := off) 14 (off + 14) 2 (c - 14) _ (RR0.bs hP HSW.out) rfl (by rw [HN.out]; omega) (by omega)).mono ?_
                        rw [EV14.out]
                        rintro e w26 ⟨rfl, hd⟩
                        have hP := RR0.dn hP hd
                        have hE := ee_d hE hd
                        refine hK _ _ ?_ (fun hHeld => ?_)
                        · exact RR0.cell hP HCW.out
                        clear hK K hd
                        try simp only [Act.put, List.getElem_toArray, List.getElem_cons_zero, List.getElem_cons_succ, List.setIfInBounds_toArray, List.set_cons_zero, List.set_cons_succ]
                        refine wpAnyH_ready (rs := [34]) (by kernel_rfl) (by simp) ?_
                        refine AllReadyH.cons rfl (fun K hK => ?_) AllReadyH.nil
                        go_simp
                        refine (num_n (off := off) 18 (off + 18) 2 (c - 18) _ (RR0.bs hP HSW.out) rfl (by rw [HN.out]; omega) (by omega)).mono ?_
                        rw [EV18.out]
                        rintro e w27 ⟨rfl, hd⟩
                        have hP := RR0.dn hP hd
                        have hE := ee_d hE hd
                        refine hK _ _ ?_ (fun hHeld => ?_)
                        · exact RR0.cell hP HCW.out
                        clear hK K hd
                        try simp only [Act.put, List.getElem_toArray, List.getElem_cons_zero, List.getElem_cons_succ, List.setIfInBounds_toArray, List.set_cons_zero, List.set_cons_succ]
                        refine wpAnyH_ready (rs := [40]) (by kernel_rfl) (by simp) ?_
                        refine AllReadyH.cons rfl (fun K hK => ?_) AllReadyH.nil
                        refine step_appn _ (by rfl) _ _ (by rfl) (w.heap.size + 1) _ 0 [] 0 rfl (by rfl) (ee_own hE) ZA (c - sz) (bs.drop sz) (n - sz) HLD.out (by rfl) (RR0.sl hP HZA.out) (by rw [HLD.out]; simp; omega) (RR0.lt hP) ?_
                        intro A2 c2 w5 hown hgrow
                        have hP := RR0.grown hP hE hgrow
                        have hC := RR0.cell hP HCW.out
                        refine hK _ _ ?_ (fun hHeld => ?_)
                        · exact hC
                        clear hK K
                        try simp only [Act.put, List.getElem_toArray, List.getElem_cons_zero, List.getElem_cons_succ, List.setIfInBounds_toArray, List.set_cons_zero, List.set_cons_succ]
                        refine wpAnyH_take (i := 41) (v := ?_) rfl (by kernel_rfl) (by kernel_rfl) (by kernel_rfl) (fun _ _ _ h => h) (Or.inl ⟨by rfl, ?_⟩) (by assumption) ?_
                        rotate_left
                        · intro w hSw
                          (try dsimp only at hSw)
                          go_simp
                          try with_reducible rfl
                        try simp only [Act.put, List.getElem_toArray, List.getElem_cons_zero, List.getElem_cons_succ, List.setIfInBounds_toArray, List.set_cons_zero, List.set_cons_succ]
                        obtain ⟨va, EVA⟩ : ∃ v : Nat, Hid (v4 * 65536 + v6 = v) := ⟨_, rfl⟩
                        obtain ⟨vb, EVB⟩ : ∃ v : Nat, Hid (v8 * 65536 + v10 = v) := ⟨_, rfl⟩
                        rw [EVA.out] at E4 UA
                        rw [EVB.out] at E8 UB
                        have hbk := Lib.hid hP.2
                        obtain ⟨x0, x1, x2, x3, x4, x5, x6, x7, x8⟩ := hbk.out.cells9
                        obtain ⟨y0, y1, y2, y3, y4, y5, y6, y7, y8⟩ := hbk.out.frees9
                        rw [UA.out, UB.out]
                        have st := hbk.out.store9 (.int .i64 (v0 : Int)) (.int .i64 (v2 : Int)) (.int .u32 (va : Int)) (.int .u32 (vb : Int)) (.int .i64 (z63 : Int)) (.int .i64 (v14 : Int)) (.int .i64 (v18 : Int)) (.int .i64 (m : Int)) (.slice A2 (n - sz) c2)
                        have HO := Lib.hid ((hown.grown hbk.out (by decide) st.2).sl)
                        have HF := Lib.hid (below_grown hP.1 st.2 (Nat.le_refl _) (Nat.le_refl _))
                        have HK := Lib.hid st.1
                        have HG := Lib.hid st.2
                        clear st
                        refine wpAnyH_ready (rs := [42]) (by kernel_rfl) (by simp) ?_
                        refine AllReadyH.cons rfl (fun K hK => ?_) AllReadyH.nil
                        go_simp
                        refine hK _ _ ?_ (fun hHeld => ?_)
                        · exact (HG.out.cell_far _ (by have := World.block_lt_of_cell? _ _ hC; simpa using this) (by simp; omega)).trans hC
                        clear hK K hown hgrow hP hbk hC HG x0 x1 x2 x3 x4 x5 x6 x7 x8 y0 y1 y2 y3 y4 y5 y6 y7 y8
                        generalize World.setCell _ _ (Value.slice A2 (n - sz) c2) = w6 at HK HO HF hHeld ⊢
                        refine wpAnyH_take (i := 43) (v := ?_) rfl (by kernel_rfl) (by kernel_rfl) (by kernel_rfl) (fun _ _ _ h => h) (Or.inl ⟨by rfl, ?_⟩) (by assumption) ?_
                        rotate_left
                        · intro w hSw
                          (try dsimp only at hSw)
                          go_simp
                          try with_reducible rfl
                        try simp only [Act.put, List.getElem_toArray, List.getElem_cons_zero, List.getElem_cons_succ, List.setIfInBounds_toArray, List.set_cons_zero, List.set_cons_succ]
                        refine wpAnyH_done (by kernel_rfl) ?_ _
                        obtain ⟨d0, d1, d2, d3, d4, d5, d6, d7, d8⟩ := HK.out.cells9
                        go_wp2_with fail
                        exact bodyPost_ret (v := .tuple #[.agg #[.int .i64 (v0 : Int), .int .i64 (v2 : Int), .int .u32 (va : Int), .int .u32 (vb : Int), .int .i64 (z63 : Int), .int .i64 (v14 : Int), .int .i64 (v18 : Int), .int .i64 (m : Int), .slice A2 (n - sz) c2], .int .i64 0]) (by simp [results, Try.results16, go_sem, d0, d1, d2, d3, d4, d5, d6, d7, d8]) rfl (sgot_val HOK.out HGR.out HSZ.out HLD.out EV0.out EV2.out E4.out E8.out E13.out EZ63.out EV14.out EV18.out (by exact HO.out) HF.out)
                    · go_simp
                      have hE := rr_2 hP
                      have hP := RR0.al (ob := .cells #[] 5) hP
                      refine hK _ _ ?_ (fun hHeld => ?_)
                      · exact RR0.cell hP HCW.out
                      clear hK K
                      try simp only [Act.put, List.getElem_toArray, List.getElem_cons_zero, List.getElem_cons_succ, List.setIfInBounds_toArray, List.set_cons_zero, List.set_cons_succ]
                      refine wpAnyH_ready (rs := [12]) (by kernel_rfl) (by simp) ?_
                      refine AllReadyH.cons rfl (fun K hK => ?_) AllReadyH.nil
                      go_simp
                      refine (num_n (off := off) 6 (off + 6) 2 (c - 6) _ (RR0.bs hP HSW.out) rfl (by rw [HN.out]; omega) (by omega)).mono ?_
                      rw [EV6.out]
                      rintro e w23 ⟨rfl, hd⟩
                      have hP := RR0.dn hP hd
                      have hE := ee_d hE hd
                      refine hK _ _ ?_ (fun hHeld => ?_)
                      · exact RR0.cell hP HCW.out
                      clear hK K hd
                      try simp only [Act.put, List.getElem_toArray, List.getElem_cons_zero, List.getElem_cons_succ, List.setIfInBounds_toArray, List.set_cons_zero, List.set_cons_succ]
                      refine wpAnyH_take (i := 13) (v := ?_) rfl (by kernel_rfl) (by kernel_rfl) (by kernel_rfl) (fun _ _ _ h => h) (Or.inl ⟨by rfl, ?_⟩) (by assumption) ?_
                      rotate_left
                      · intro w hSw
                        (try dsimp only at hSw)
                        go_simp
                        try with_reducible rfl
                      try simp only [Act.put, List.getElem_toArray, List.getElem_cons_zero, List.getElem_cons_succ, List.setIfInBounds_toArray, List.set_cons_zero, List.set_cons_succ]
                      refine wpAnyH_take (i := 14) (v := ?_) rfl (by kernel_rfl) (by kernel_rfl) (by kernel_rfl) (fun _ _ _ h => h) (Or.inl ⟨by rfl, ?_⟩) (by assumption) ?_
                      rotate_left
                      · intro w hSw
                        (try dsimp only at hSw)
                        go_simp
                        try with_reducible rfl
                      try simp only [Act.put, List.getElem_toArray, List.getElem_cons_zero, List.getElem_cons_succ, List.setIfInBounds_toArray, List.set_cons_zero, List.set_cons_succ]
                      refine wpAnyH_ready (rs := [17]) (by kernel_rfl) (by simp) ?_
                      refine AllReadyH.cons rfl (fun K hK => ?_) AllReadyH.nil
                      go_simp
                      refine (num_n (off := off) 8 (off + 8) 2 (c - 8) _ (RR0.bs hP HSW.out) rfl (by rw [HN.out]; omega) (by omega)).mono ?_
                      rw [EV8.out]
                      rintro e w24 ⟨rfl, hd⟩
                      have hP := RR0.dn hP hd
                      have hE := ee_d hE hd
                      refine hK _ _ ?_ (fun hHeld => ?_)
                      · exact RR0.cell hP HCW.out
                      clear hK K hd
                      try simp only [Act.put, List.getElem_toArray, List.getElem_cons_zero, List.getElem_cons_succ, List.setIfInBounds_toArray, List.set_cons_zero, List.set_cons_succ]
                      refine wpAnyH_take (i := 18) (v := ?_) rfl (by kernel_rfl) (by kernel_rfl) (by kernel_rfl) (fun _ _ _ h => h) (Or.inl ⟨by rfl, ?_⟩) (by assumption) ?_
                      rotate_left
                      · intro w hSw
                        (try dsimp only at hSw)
                        go_simp
                        try with_reducible rfl
                      try simp only [Act.put, List.getElem_toArray, List.getElem_cons_zero, List.getElem_cons_succ, List.setIfInBounds_toArray, List.set_cons_zero, List.set_cons_succ]
                      refine wpAnyH_ready (rs := [21]) (by kernel_rfl) (by simp) ?_
                      refine AllReadyH.cons rfl (fun K hK => ?_) AllReadyH.nil
                      go_simp
                      refine (num_n (off := off) 10 (off + 10) 2 (c - 10) _ (RR0.bs hP HSW.out) rfl (by rw [HN.out]; omega) (by omega)).mono ?_
                      rw [EV10.out]
                      rintro e w25 ⟨rfl, hd⟩
                      have hP := RR0.dn hP hd
                      have hE := ee_d hE hd
                      refine hK _ _ ?_ (fun hHeld => ?_)
                      · exact RR0.cell hP HCW.out
                      clear hK K hd
                      try simp only [Act.put, List.getElem_toArray, List.getElem_cons_zero, List.getElem_cons_succ, List.setIfInBounds_toArray, List.set_cons_zero, List.set_cons_succ]
                      refine wpAnyH_take (i := 22) (v := ?_) rfl (by kernel_rfl) (by kernel_rfl) (by kernel_rfl) (fun _ _ _ h => h) (Or.inl ⟨by rfl, ?_⟩) (by assumption) ?_
                      rotate_left
                      · intro w hSw
                        (try dsimp only at hSw)
                        go_simp
                        try with_reducible rfl
                      try simp only [Act.put, List.getElem_toArray, List.getElem_cons_zero, List.getElem_cons_succ, List.setIfInBounds_toArray, List.set_cons_zero, List.set_cons_succ]
                      refine wpAnyH_take (i := 23) (v := ?_) rfl (by kernel_rfl) (by kernel_rfl) (by kernel_rfl) (fun _ _ _ h => h) (Or.inl ⟨by rfl, ?_⟩) (by assumption) ?_
                      rotate_left
                      · intro w hSw
                        (try dsimp only at hSw)
                        go_simp
                        try with_reducible rfl
                      try simp only [Act.put, List.getElem_toArray, List.getElem_cons_zero, List.getElem_cons_succ, List.setIfInBounds_toArray, List.set_cons_zero, List.set_cons_succ]
                      refine wpAnyH_ready (rs := [31]) (by kernel_rfl) (by simp) ?_
                      refine AllReadyH.cons rfl (fun K hK => ?_) AllReadyH.nil
                      go_simp
                      refine (num_n (off := off) 14 (off + 14) 2 (c - 14) _ (RR0.bs hP HSW.out) rfl (by rw [HN.out]; omega) (by omega)).mono ?_
                      rw [EV14.out]
                      rintro e w26 ⟨rfl, hd⟩
                      have hP := RR0.dn hP hd
                      have hE := ee_d hE hd
                      refine hK _ _ ?_ (fun hHeld => ?_)
                      · exact RR0.cell hP HCW.out
                      clear hK K hd
                      try simp only [Act.put, List.getElem_toArray, List.getElem_cons_zero, List.getElem_cons_succ, List.setIfInBounds_toArray, List.set_cons_zero, List.set_cons_succ]
                      refine wpAnyH_ready (rs := [34]) (by kernel_rfl) (by simp) ?_
                      refine AllReadyH.cons rfl (fun K hK => ?_) AllReadyH.nil
                      go_simp
                      refine (num_n (off := off) 18 (off + 18) 2 (c - 18) _ (RR0.bs hP HSW.out) rfl (by rw [HN.out]; omega) (by omega)).mono ?_
                      rw [EV18.out]
                      rintro e w27 ⟨rfl, hd⟩
                      have hP := RR0.dn hP hd
                      have hE := ee_d hE hd
                      refine hK _ _ ?_ (fun hHeld => ?_)
                      · exact RR0.cell hP HCW.out
                      clear hK K hd
                      try simp only [Act.put, List.getElem_toArray, List.getElem_cons_zero, List.getElem_cons_succ, List.setIfInBounds_toArray, List.set_cons_zero, List.set_cons_succ]
                      refine wpAnyH_ready (rs := [40]) (by kernel_rfl) (by simp) ?_
                      refine AllReadyH.cons rfl (fun K hK => ?_) AllReadyH.nil
                      refine step_appn _ (by rfl) _ _ (by rfl) (w.heap.size + 1) _ 0 [] 0 rfl (by rfl) (ee_own hE) ZA (c - sz) (bs.drop sz) (n - sz) HLD.out (by rfl) (RR0.sl hP HZA.out) (by rw [HLD.out]; simp; omega) (RR0.lt hP) ?_
                      intro A2 c2 w5 hown hgrow
                      have hP := RR0.grown hP hE hgrow
                      have hC := RR0.cell hP HCW.out
                      refine hK _ _ ?_ (fun hHeld => ?_)
                      · exact hC
                      clear hK K
                      try simp only [Act.put, List.getElem_toArray, List.getElem_cons_zero, List.getElem_cons_succ, List.setIfInBounds_toArray, List.set_cons_zero, List.set_cons_succ]
                      refine wpAnyH_take (i := 41) (v := ?_) rfl (by kernel_rfl) (by kernel_rfl) (by kernel_rfl) (fun _ _ _ h => h) (Or.inl ⟨by rfl, ?_⟩) (by assumption) ?_
                      rotate_left
                      · intro w hSw
                        (try dsimp only at hSw)
                        go_simp
                        try with_reducible rfl
                      try simp only [Act.put, List.getElem_toArray, List.getElem_cons_zero, List.getElem_cons_succ, List.setIfInBounds_toArray, List.set_cons_zero, List.set_cons_succ]
                      obtain ⟨va, EVA⟩ : ∃ v : Nat, Hid (v4 * 65536 + v6 = v) := ⟨_, rfl⟩
                      obtain ⟨vb, EVB⟩ : ∃ v : Nat, Hid (v8 * 65536 + v10 = v) := ⟨_, rfl⟩
                      rw [EVA.out] at E4 UA
                      rw [EVB.out] at E8 UB
                      have hbk := Lib.hid hP.2
                      obtain ⟨x0, x1, x2, x3, x4, x5, x6, x7, x8⟩ := hbk.out.cells9
                      obtain ⟨y0, y1, y2, y3, y4, y5, y6, y7, y8⟩ := hbk.out.frees9
                      rw [UA.out, UB.out]
                      have st := hbk.out.store9 (.int .i64 (v0 : Int)) (.int .i64 (v2 : Int)) (.int .u32 (va : Int)) (.int .u32 (vb : Int)) (.int .i64 (z63 : Int)) (.int .i64 (v14 : Int)) (.int .i64 (v18 : Int)) (.int .i64 (m : Int)) (.slice A2 (n - sz) c2)
                      have HO := Lib.hid ((hown.grown hbk.out (by decide) st.2).sl)
                      have HF := Lib.hid (below_grown hP.1 st.2 (Nat.le_refl _) (Nat.le_refl _))
                      have HK := Lib.hid st.1
                      have HG := Lib.hid st.2
                      clear st
                      refine wpAnyH_ready (rs := [42]) (by kernel_rfl) (by simp) ?_
                      refine AllReadyH.cons rfl (fun K hK => ?_) AllReadyH.nil
                      go_simp
                      refine hK _ _ ?_ (fun hHeld => ?_)
                      · exact (HG.out.cell_far _ (by have := World.block_lt_of_cell? _ _ hC; simpa using this) (by simp; omega)).trans hC
                      clear hK K hown hgrow hP hbk hC HG x0 x1 x2 x3 x4 x5 x6 x7 x8 y0 y1 y2 y3 y4 y5 y6 y7 y8
                      generalize World.setCell _ _ (Value.slice A2 (n - sz) c2) = w6 at HK HO HF hHeld ⊢
                      refine wpAnyH_take (i := 43) (v := ?_) rfl (by kernel_rfl) (by kernel_rfl) (by kernel_rfl) (fun _ _ _ h => h) (Or.inl ⟨by rfl, ?_⟩) (by assumption) ?_
                      rotate_left
                      · intro w hSw
                        (try dsimp only at hSw)
                        go_simp
                        try with_reducible rfl
                      try simp only [Act.put, List.getElem_toArray, List.getElem_cons_zero, List.getElem_cons_succ, List.setIfInBounds_toArray, List.set_cons_zero, List.set_cons_succ]
                      refine wpAnyH_done (by kernel_rfl) ?_ _
                      obtain ⟨d0, d1, d2, d3, d4, d5, d6, d7, d8⟩ := HK.out.cells9
                      go_wp2_with fail
                      exact bodyPost_ret (v := .tuple #[.agg #[.int .i64 (v0 : Int), .int .i64 (v2 : Int), .int .u32 (va : Int), .int .u32 (vb : Int), .int .i64 (z63 : Int), .int .i64 (v14 : Int), .int .i64 (v18 : Int), .int .i64 (m : Int), .slice A2 (n - sz) c2], .int .i64 0]) (by simp [results, Try.results16, go_sem, d0, d1, d2, d3, d4, d5, d6, d7, d8]) rfl (sgot_val HOK.out HGR.out HSZ.out HLD.out EV0.out EV2.out E4.out E8.out E13.out EZ63.out EV14.out EV18.out (by exact HO.out) HF.out)
                  · go_simp
                    have hE := rr_2 hP
                    have hP := RR0.al (ob := .cells #[] 5) hP
                    refine hK _ _ ?_ (fun hHeld => ?_)
                    · exact RR0.cell hP HCW.out
                    clear hK K
                    try simp only [Act.put, List.getElem_toArray, List.getElem_cons_zero, List.getElem_cons_succ, List.setIfInBounds_toArray, List.set_cons_zero, List.set_cons_succ]
                    refine wpAnyH_ready (rs := [8]) (by kernel_rfl) (by simp) ?_
                    refine AllReadyH.cons rfl (fun K hK => ?_) AllReadyH.nil
                    go_simp
                    refine (num_n (off := off) 4 (off + 4) 2 (c - 4) _ (RR0.bs hP HSW.out) rfl (by rw [HN.out]; omega) (by omega)).mono ?_
                    rw [EV4.out]
                    rintro e w22 ⟨rfl, hd⟩
                    have hP := RR0.dn hP hd
                    have hE := ee_d hE hd
                    refine hK _ _ ?_ (fun hHeld => ?_)
                    · exact RR0.cell hP HCW.out
                    clear hK K hd
                    try simp only [Act.put, List.getElem_toArray, List.getElem_cons_zero, List.getElem_cons_succ, List.setIfInBounds_toArray, List.set_cons_zero, List.set_cons_succ]
                    refine wpAnyH_take (i := 9) (v := ?_) rfl (by kernel_rfl) (by kernel_rfl) (by kernel_rfl) (fun _ _ _ h => h) (Or.inl ⟨by rfl, ?_⟩) (by assumption) ?_
                    rotate_left
                    · intro w hSw
                      (try dsimp only at hSw)
                      go_simp
                      try with_reducible rfl
                    try simp only [Act.put, List.getElem_toArray, List.getElem_cons_zero, List.getElem_cons_succ, List.setIfInBounds_toArray, List.set_cons_zero, List.set_cons_succ]
                    refine wpAnyH_ready (rs := [12]) (by kernel_rfl) (by simp) ?_
                    refine AllReadyH.cons rfl (fun K hK => ?_) AllReadyH.nil
                    go_simp
                    refine (num_n (off := off) 6 (off + 6) 2 (c - 6) _ (RR0.bs hP HSW.out) rfl (by rw [HN.out]; omega) (by omega)).mono ?_
                    rw [EV6.out]
                    rintro e w23 ⟨rfl, hd⟩
                    have hP := RR0.dn hP hd
                    have hE := ee_d hE hd
                    refine hK _ _ ?_ (fun hHeld => ?_)
                    · exact RR0.cell hP HCW.out
                    clear hK K hd
                    try simp only [Act.put, List.getElem_toArray, List.getElem_cons_zero, List.getElem_cons_succ, List.setIfInBounds_toArray, List.set_cons_zero, List.set_cons_succ]
                    refine wpAnyH_take (i := 13) (v := ?_) rfl (by kernel_rfl) (by kernel_rfl) (by kernel_rfl) (fun _ _ _ h => h) (Or.inl ⟨by rfl, ?_⟩) (by assumption) ?_
                    rotate_left
                    · intro w hSw
                      (try dsimp only at hSw)
                      go_simp
                      try with_reducible rfl
                    try simp only [Act.put, List.getElem_toArray, List.getElem_cons_zero, List.getElem_cons_succ, List.setIfInBounds_toArray, List.set_cons_zero, List.set_cons_succ]
                    refine wpAnyH_take (i := 14) (v := ?_) rfl (by kernel_rfl) (by kernel_rfl) (by kernel_rfl) (fun _ _ _ h => h) (Or.inl ⟨by rfl, ?_⟩) (by assumption) ?_
                    rotate_left
                    · intro w hSw
                      (try dsimp only at hSw)
                      go_simp
                      try with_reducible rfl
                    try simp only [Act.put, List.getElem_toArray, List.getElem_cons_zero, List.getElem_cons_succ, List.setIfInBounds_toArray, List.set_cons_zero, List.set_cons_succ]
                    refine wpAnyH_ready (rs := [17]) (by kernel_rfl) (by simp) ?_
                    refine AllReadyH.cons rfl (fun K hK => ?_) AllReadyH.nil
                    go_simp
                    refine (num_n (off := off) 8 (off + 8) 2 (c - 8) _ (RR0.bs hP HSW.out) rfl (by rw [HN.out]; omega) (by omega)).mono ?_
                    rw [EV8.out]
                    rintro e w24 ⟨rfl, hd⟩
                    have hP := RR0.dn hP hd
                    have hE := ee_d hE hd
                    refine hK _ _ ?_ (fun hHeld => ?_)
                    · exact RR0.cell hP HCW.out
                    clear hK K hd
                    try simp only [Act.put, List.getElem_toArray, List.getElem_cons_zero, List.getElem_cons_succ, List.setIfInBounds_toArray, List.set_cons_zero, List.set_cons_succ]
                    refine wpAnyH_take (i := 18) (v := ?_) rfl (by kernel_rfl) (by kernel_rfl) (by kernel_rfl) (fun _ _ _ h => h) (Or.inl ⟨by rfl, ?_⟩) (by assumption) ?_
                    rotate_left
                    · intro w hSw
                      (try dsimp only at hSw)
                      go_simp
                      try with_reducible rfl
                    try simp only [Act.put, List.getElem_toArray, List.getElem_cons_zero, List.getElem_cons_succ, List.setIfInBounds_toArray, List.set_cons_zero, List.set_cons_succ]
                    refine wpAnyH_ready (rs := [21]) (by kernel_rfl) (by simp) ?_
                    refine AllReadyH.cons rfl (fun K hK => ?_) AllReadyH.nil
                    go_simp
                    refine (num_n (off := off) 10 (off + 10) 2 (c - 10) _ (RR0.bs hP HSW.out) rfl (by rw [HN.out]; omega) (by omega)).mono ?_
                    rw [EV10.out]
                    rintro e w25 ⟨rfl, hd⟩
                    have hP := RR0.dn hP hd
                    have hE := ee_d hE hd
                    refine hK _ _ ?_ (fun hHeld => ?_)
                    · exact RR0.cell hP HCW.out
                    clear hK K hd
                    try simp only [Act.put, List.getElem_toArray, List.getElem_cons_zero, List.getElem_cons_succ, List.setIfInBounds_toArray, List.set_cons_zero, List.set_cons_succ]
                    refine wpAnyH_take (i := 22) (v := ?_) rfl (by kernel_rfl) (by kernel_rfl) (by kernel_rfl) (fun _ _ _ h => h) (Or.inl ⟨by rfl, ?_⟩) (by assumption) ?_
                    rotate_left
                    · intro w hSw
                      (try dsimp only at hSw)
                      go_simp
                      try with_reducible rfl
                    try simp only [Act.put, List.getElem_toArray, List.getElem_cons_zero, List.getElem_cons_succ, List.setIfInBounds_toArray, List.set_cons_zero, List.set_cons_succ]
                    refine wpAnyH_take (i := 23) (v := ?_) rfl (by kernel_rfl) (by kernel_rfl) (by kernel_rfl) (fun _ _ _ h => h) (Or.inl ⟨by rfl, ?_⟩) (by assumption) ?_
                    rotate_left
                    · intro w hSw
                      (try dsimp only at hSw)
                      go_simp
                      try with_reducible rfl
                    try simp only [Act.put, List.getElem_toArray, List.getElem_cons_zero, List.getElem_cons_succ, List.setIfInBounds_toArray, List.set_cons_zero, List.set_cons_succ]
                    refine wpAnyH_ready (rs := [31]) (by kernel_rfl) (by simp) ?_
                    refine AllReadyH.cons rfl (fun K hK => ?_) AllReadyH.nil
                    go_simp
                    refine (num_n (off := off) 14 (off + 14) 2 (c - 14) _ (RR0.bs hP HSW.out) rfl (by rw [HN.out]; omega) (by omega)).mono ?_
                    rw [EV14.out]
                    rintro e w26 ⟨rfl, hd⟩
                    have hP := RR0.dn hP hd
                    have hE := ee_d hE hd
                    refine hK _ _ ?_ (fun hHeld => ?_)
                    · exact RR0.cell hP HCW.out
                    clear hK K hd
                    try simp only [Act.put, List.getElem_toArray, List.getElem_cons_zero, List.getElem_cons_succ, List.setIfInBounds_toArray, List.set_cons_zero, List.set_cons_succ]
                    refine wpAnyH_ready (rs := [34]) (by kernel_rfl) (by simp) ?_
                    refine AllReadyH.cons rfl (fun K hK => ?_) AllReadyH.nil
                    go_simp
                    refine (num_n (off := off) 18 (off + 18) 2 (c - 18) _ (RR0.bs hP HSW.out) rfl (by rw [HN.out]; omega) (by omega)).mono ?_
                    rw [EV18.out]
                    rintro e w27 ⟨rfl, hd⟩
                    have hP := RR0.dn hP hd
                    have hE := ee_d hE hd
                    refine hK _ _ ?_ (fun hHeld => ?_)
                    · exact RR0.cell hP HCW.out
                    clear hK K hd
                    try simp only [Act.put, List.getElem_toArray, List.getElem_cons_zero, List.getElem_cons_succ, List.setIfInBounds_toArray, List.set_cons_zero, List.set_cons_succ]
                    refine wpAnyH_ready (rs := [40]) (by kernel_rfl) (by simp) ?_
                    refine AllReadyH.cons rfl (fun K hK => ?_) AllReadyH.nil
                    refine step_appn _ (by rfl) _ _ (by rfl) (w.heap.size + 1) _ 0 [] 0 rfl (by rfl) (ee_own hE) ZA (c - sz) (bs.drop sz) (n - sz) HLD.out (by rfl) (RR0.sl hP HZA.out) (by rw [HLD.out]; simp; omega) (RR0.lt hP) ?_
                    intro A2 c2 w5 hown hgrow
                    have hP := RR0.grown hP hE hgrow
                    have hC := RR0.cell hP HCW.out
                    refine hK _ _ ?_ (fun hHeld => ?_)
                    · exact hC
                    clear hK K
                    try simp only [Act.put, List.getElem_toArray, List.getElem_cons_zero, List.getElem_cons_succ, List.setIfInBounds_toArray, List.set_cons_zero, List.set_cons_succ]
                    refine wpAnyH_take (i := 41) (v := ?_) rfl (by kernel_rfl) (by kernel_rfl) (by kernel_rfl) (fun _ _ _ h => h) (Or.inl ⟨by rfl, ?_⟩) (by assumption) ?_
                    rotate_left
                    · intro w hSw
                      (try dsimp only at hSw)
                      go_simp
                      try with_reducible rfl
                    try simp only [Act.put, List.getElem_toArray, List.getElem_cons_zero, List.getElem_cons_succ, List.setIfInBounds_toArray, List.set_cons_zero, List.set_cons_succ]
                    obtain ⟨va, EVA⟩ : ∃ v : Nat, Hid (v4 * 65536 + v6 = v) := ⟨_, rfl⟩
                    obtain ⟨vb, EVB⟩ : ∃ v : Nat, Hid (v8 * 65536 + v10 = v) := ⟨_, rfl⟩
                    rw [EVA.out] at E4 UA
                    rw [EVB.out] at E8 UB
                    have hbk := Lib.hid hP.2
                    obtain ⟨x0, x1, x2, x3, x4, x5, x6, x7, x8⟩ := hbk.out.cells9
                    obtain ⟨y0, y1, y2, y3, y4, y5, y6, y7, y8⟩ := hbk.out.frees9
                    rw [UA.out, UB.out]
                    have st := hbk.out.store9 (.int .i64 (v0 : Int)) (.int .i64 (v2 : Int)) (.int .u32 (va : Int)) (.int .u32 (vb : Int)) (.int .i64 (z63 : Int)) (.int .i64 (v14 : Int)) (.int .i64 (v18 : Int)) (.int .i64 (m : Int)) (.slice A2 (n - sz) c2)
                    have HO := Lib.hid ((hown.grown hbk.out (by decide) st.2).sl)
                    have HF := Lib.hid (below_grown hP.1 st.2 (Nat.le_refl _) (Nat.le_refl _))
                    have HK := Lib.hid st.1
                    have HG := Lib.hid st.2
                    clear st
                    refine wpAnyH_ready (rs := [42]) (by kernel_rfl) (by simp) ?_
                    refine AllReadyH.cons rfl (fun K hK => ?_) AllReadyH.nil
                    go_simp
                    refine hK _ _ ?_ (fun hHeld => ?_)
                    · exact (HG.out.cell_far _ (by have := World.block_lt_of_cell? _ _ hC; simpa using this) (by simp; omega)).trans hC
                    clear hK K hown hgrow hP hbk hC HG x0 x1 x2 x3 x4 x5 x6 x7 x8 y0 y1 y2 y3 y4 y5 y6 y7 y8
                    generalize World.setCell _ _ (Value.slice A2 (n - sz) c2) = w6 at HK HO HF hHeld ⊢
                    refine wpAnyH_take (i := 43) (v := ?_) rfl (by kernel_rfl) (by kernel_rfl) (by kernel_rfl) (fun _ _ _ h => h) (Or.inl ⟨by rfl, ?_⟩) (by assumption) ?_
                    rotate_left
                    · intro w hSw
                      (try dsimp only at hSw)
                      go_simp
                      try with_reducible rfl
                    try simp only [Act.put, List.getElem_toArray, List.getElem_cons_zero, List.getElem_cons_succ, List.setIfInBounds_toArray, List.set_cons_zero, List.set_cons_succ]
                    refine wpAnyH_done (by kernel_rfl) ?_ _
                    obtain ⟨d0, d1, d2, d3, d4, d5, d6, d7, d8⟩ := HK.out.cells9
                    go_wp2_with fail
                    exact bodyPost_ret (v := .tuple #[.agg #[.int .i64 (v0 : Int), .int .i64 (v2 : Int), .int .u32 (va : Int), .int .u32 (vb : Int), .int .i64 (z63 : Int), .int .i64 (v14 : Int), .int .i64 (v18 : Int), .int .i64 (m : Int), .slice A2 (n - sz) c2], .int .i64 0]) (by simp [results, Try.results16, go_sem, d0, d1, d2, d3, d4, d5, d6, d7, d8]) rfl (sgot_val HOK.out HGR.out HSZ.out HLD.out EV0.out EV2.out E4.out E8.out E13.out EZ63.out EV14.out EV18.out (by exact HO.out) HF.out)
                · go_simp
                  have hE := rr_2 hP
                  have hP := RR0.al (ob := .cells #[] 5) hP
                  refine hK _ _ ?_ (fun hHeld => ?_)
                  · exact RR0.cell hP HCW.out
                  clear hK K
                  try simp only [Act.put, List.getElem_toArray, List.getElem_cons_zero, List.getElem_cons_succ, List.setIfInBounds_toArray, List.set_cons_zero, List.set_cons_succ]
                  refine wpAnyH_ready (rs := [5]) (by kernel_rfl) (by simp) ?_
                  refine AllReadyH.cons rfl (fun K hK => ?_) AllReadyH.nil
                  go_simp
                  refine (num_n (off := off) 2 (off + 2) 2 (c - 2) _ (RR0.bs hP HSW.out) rfl (by rw [HN.out]; omega) (by omega)).mono ?_
                  rw [EV2.out]
                  rintro e w21 ⟨rfl, hd⟩
                  have hP := RR0.dn hP hd
                  have hE := ee_d hE hd
                  refine hK _ _ ?_ (fun hHeld => ?_)
                  · exact RR0.cell hP HCW.out
                  clear hK K hd
                  try simp only [Act.put, List.getElem_toArray, List.getElem_cons_zero, List.getElem_cons_succ, List.setIfInBounds_toArray, List.set_cons_zero, List.set_cons_succ]
                  refine wpAnyH_ready (rs := [8]) (by kernel_rfl) (by simp) ?_
                  refine AllReadyH.cons rfl (fun K hK => ?_) AllReadyH.nil
                  go_simp
                  refine (num_n (off := off) 4 (off + 4) 2 (c - 4) _ (RR0.bs hP HSW.out) rfl (by rw [HN.out]; omega) (by omega)).mono ?_
                  rw [EV4.out]
                  rintro e w22 ⟨rfl, hd⟩
                  have hP := RR0.dn hP hd
                  have hE := ee_d hE hd
                  refine hK _ _ ?_ (fun hHeld => ?_)
                  · exact RR0.cell hP HCW.out
                  clear hK K hd
                  try simp only [Act.put, List.getElem_toArray, List.getElem_cons_zero, List.getElem_cons_succ, List.setIfInBounds_toArray, List.set_cons_zero, List.set_cons_succ]
                  refine wpAnyH_take (i := 9) (v := ?_) rfl (by kernel_rfl) (by kernel_rfl) (by kernel_rfl) (fun _ _ _ h => h) (Or.inl ⟨by rfl, ?_⟩) (by assumption) ?_
                  rotate_left
                  · intro w hSw
                    (try dsimp only at hSw)
                    go_simp
                    try with_reducible rfl
                  try simp only [Act.put, List.getElem_toArray, List.getElem_cons_zero, List.getElem_cons_succ, List.setIfInBounds_toArray, List.set_cons_zero, List.set_cons_succ]
                  refine wpAnyH_ready (rs := [12]) (by kernel_rfl) (by simp) ?_
                  refine AllReadyH.cons rfl (fun K hK => ?_) AllReadyH.nil
                  go_simp
                  refine (num_n (off := off) 6 (off + 6) 2 (c - 6) _ (RR0.bs hP HSW.out) rfl (by rw [HN.out]; omega) (by omega)).mono ?_
                  rw [EV6.out]
                  rintro e w23 ⟨rfl, hd⟩
                  have hP := RR0.dn hP hd
                  have hE := ee_d hE hd
                  refine hK _ _ ?_ (fun hHeld => ?_)
                  · exact RR0.cell hP HCW.out
                  clear hK K hd
                  try simp only [Act.put, List.getElem_toArray, List.getElem_cons_zero, List.getElem_cons_succ, List.setIfInBounds_toArray, List.set_cons_zero, List.set_cons_succ]
                  refine wpAnyH_take (i := 13) (v := ?_) rfl (by kernel_rfl) (by kernel_rfl) (by kernel_rfl) (fun _ _ _ h => h) (Or.inl ⟨by rfl, ?_⟩) (by assumption) ?_
                  rotate_left
                  · intro w hSw
                    (try dsimp only at hSw)
                    go_simp
                    try with_reducible rfl
                  try simp only [Act.put, List.getElem_toArray, List.getElem_cons_zero, List.getElem_cons_succ, List.setIfInBounds_toArray, List.set_cons_zero, List.set_cons_succ]
                  refine wpAnyH_take (i := 14) (v := ?_) rfl (by kernel_rfl) (by kernel_rfl) (by kernel_rfl) (fun _ _ _ h => h) (Or.inl ⟨by rfl, ?_⟩) (by assumption) ?_
                  rotate_left
                  · intro w hSw
                    (try dsimp only at hSw)
                    go_simp
                    try with_reducible rfl
                  try simp only [Act.put, List.getElem_toArray, List.getElem_cons_zero, List.getElem_cons_succ, List.setIfInBounds_toArray, List.set_cons_zero, List.set_cons_succ]
                  refine wpAnyH_ready (rs := [17]) (by kernel_rfl) (by simp) ?_
                  refine AllReadyH.cons rfl (fun K hK => ?_) AllReadyH.nil
                  go_simp
                  refine (num_n (off := off) 8 (off + 8) 2 (c - 8) _ (RR0.bs hP HSW.out) rfl (by rw [HN.out]; omega) (by omega)).mono ?_
                  rw [EV8.out]
                  rintro e w24 ⟨rfl, hd⟩
                  have hP := RR0.dn hP hd
                  have hE := ee_d hE hd
                  refine hK _ _ ?_ (fun hHeld => ?_)
                  · exact RR0.cell hP HCW.out
                  clear hK K hd
                  try simp only [Act.put, List.getElem_toArray, List.getElem_cons_zero, List.getElem_cons_succ, List.setIfInBounds_toArray, List.set_cons_zero, List.set_cons_succ]
                  refine wpAnyH_take (i := 18) (v := ?_) rfl (by kernel_rfl) (by kernel_rfl) (by kernel_rfl) (fun _ _ _ h => h) (Or.inl ⟨by rfl, ?_⟩) (by assumption) ?_
                  rotate_left
                  · intro w hSw
                    (try dsimp only at hSw)
                    go_simp
                    try with_reducible rfl
                  try simp only [Act.put, List.getElem_toArray, List.getElem_cons_zero, List.getElem_cons_succ, List.setIfInBounds_toArray, List.set_cons_zero, List.set_cons_succ]
                  refine wpAnyH_ready (rs := [21]) (by kernel_rfl) (by simp) ?_
                  refine AllReadyH.cons rfl (fun K hK => ?_) AllReadyH.nil
                  go_simp
                  refine (num_n (off := off) 10 (off + 10) 2 (c - 10) _ (RR0.bs hP HSW.out) rfl (by rw [HN.out]; omega) (by omega)).mono ?_
                  rw [EV10.out]
                  rintro e w25 ⟨rfl, hd⟩
                  have hP := RR0.dn hP hd
                  have hE := ee_d hE hd
                  refine hK _ _ ?_ (fun hHeld => ?_)
                  · exact RR0.cell hP HCW.out
                  clear hK K hd
                  try simp only [Act.put, List.getElem_toArray, List.getElem_cons_zero, List.getElem_cons_succ, List.setIfInBounds_toArray, List.set_cons_zero, List.set_cons_succ]
                  refine wpAnyH_take (i := 22) (v := ?_) rfl (by kernel_rfl) (by kernel_rfl) (by kernel_rfl) (fun _ _ _ h => h) (Or.inl ⟨by rfl, ?_⟩) (by assumption) ?_
                  rotate_left
                  · intro w hSw
                    (try dsimp only at hSw)
                    go_simp
                    try with_reducible rfl
                  try simp only [Act.put, List.getElem_toArray, List.getElem_cons_zero, List.getElem_cons_succ, List.setIfInBounds_toArray, List.set_cons_zero, List.set_cons_succ]
                  refine wpAnyH_take (i := 23) (v := ?_) rfl (by kernel_rfl) (by kernel_rfl) (by kernel_rfl) (fun _ _ _ h => h) (Or.inl ⟨by rfl, ?_⟩) (by assumption) ?_
                  rotate_left
                  · intro w hSw
                    (try dsimp only at hSw)
                    go_simp
                    try with_reducible rfl
                  try simp only [Act.put, List.getElem_toArray, List.getElem_cons_zero, List.getElem_cons_succ, List.setIfInBounds_toArray, List.set_cons_zero, List.set_cons_succ]
                  refine wpAnyH_ready (rs := [31]) (by kernel_rfl) (by simp) ?_
                  refine AllReadyH.cons rfl (fun K hK => ?_) AllReadyH.nil
                  go_simp
                  refine (num_n (off := off) 14 (off + 14) 2 (c - 14) _ (RR0.bs hP HSW.out) rfl (by rw [HN.out]; omega) (by omega)).mono ?_
                  rw [EV14.out]
                  rintro e w26 ⟨rfl, hd⟩
                  have hP := RR0.dn hP hd
                  have hE := ee_d hE hd
                  refine hK _ _ ?_ (fun hHeld => ?_)
                  · exact RR0.cell hP HCW.out
                  clear hK K hd
                  try simp only [Act.put, List.getElem_toArray, List.getElem_cons_zero, List.getElem_cons_succ, List.setIfInBounds_toArray, List.set_cons_zero, List.set_cons_succ]
                  refine wpAnyH_ready (rs := [34]) (by kernel_rfl) (by simp) ?_
                  refine AllReadyH.cons rfl (fun K hK => ?_) AllReadyH.nil
                  go_simp
                  refine (num_n (off := off) 18 (off + 18) 2 (c - 18) _ (RR0.bs hP HSW.out) rfl (by rw [HN.out]; omega) (by omega)).mono ?_
                  rw [EV18.out]
                  rintro e w27 ⟨rfl, hd⟩
                  have hP := RR0.dn hP hd
                  have hE := ee_d hE hd
                  refine hK _ _ ?_ (fun hHeld => ?_)
                  · exact RR0.cell hP HCW.out
                  clear hK K hd
                  try simp only [Act.put, List.getElem_toArray, List.getElem_cons_zero, List.getElem_cons_succ, List.setIfInBounds_toArray, List.set_cons_zero, List.set_cons_succ]
                  refine wpAnyH_ready (rs := [40]) (by kernel_rfl) (by simp) ?_
                  refine AllReadyH.cons rfl (fun K hK => ?_) AllReadyH.nil
                  refine step_appn _ (by rfl) _ _ (by rfl) (w.heap.size + 1) _ 0 [] 0 rfl (by rfl) (ee_own hE) ZA (c - sz) (bs.drop sz) (n - sz) HLD.out (by rfl) (RR0.sl hP HZA.out) (by rw [HLD.out]; simp; omega) (RR0.lt hP) ?_
                  intro A2 c2 w5 hown hgrow
                  have hP := RR0.grown hP hE hgrow
                  have hC := RR0.cell hP HCW.out
                  refine hK _ _ ?_ (fun hHeld => ?_)
                  · exact hC
                  clear hK K
                  try simp only [Act.put, List.getElem_toArray, List.getElem_cons_zero, List.getElem_cons_succ, List.setIfInBounds_toArray, List.set_cons_zero, List.set_cons_succ]
                  refine wpAnyH_take (i := 41) (v := ?_) rfl (by kernel_rfl) (by kernel_rfl) (by kernel_rfl) (fun _ _ _ h => h) (Or.inl ⟨by rfl, ?_⟩) (by assumption) ?_
                  rotate_left
                  · intro w hSw
                    (try dsimp only at hSw)
                    go_simp
                    try with_reducible rfl
                  try simp only [Act.put, List.getElem_toArray, List.getElem_cons_zero, List.getElem_cons_succ, List.setIfInBounds_toArray, List.set_cons_zero, List.set_cons_succ]
                  obtain ⟨va, EVA⟩ : ∃ v : Nat, Hid (v4 * 65536 + v6 = v) := ⟨_, rfl⟩
                  obtain ⟨vb, EVB⟩ : ∃ v : Nat, Hid (v8 * 65536 + v10 = v) := ⟨_, rfl⟩
                  rw [EVA.out] at E4 UA
                  rw [EVB.out] at E8 UB
                  have hbk := Lib.hid hP.2
                  obtain ⟨x0, x1, x2, x3, x4, x5, x6, x7, x8⟩ := hbk.out.cells9
                  obtain ⟨y0, y1, y2, y3, y4, y5, y6, y7, y8⟩ := hbk.out.frees9
                  rw [UA.out, UB.out]
                  have st := hbk.out.store9 (.int .i64 (v0 : Int)) (.int .i64 (v2 : Int)) (.int .u32 (va : Int)) (.int .u32 (vb : Int)) (.int .i64 (z63 : Int)) (.int .i64 (v14 : Int)) (.int .i64 (v18 : Int)) (.int .i64 (m : Int)) (.slice A2 (n - sz) c2)
                  have HO := Lib.hid ((hown.grown hbk.out (by decide) st.2).sl)
                  have HF := Lib.hid (below_grown hP.1 st.2 (Nat.le_refl _) (Nat.le_refl _))
                  have HK := Lib.hid st.1
                  have HG := Lib.hid st.2
                  clear st
                  refine wpAnyH_ready (rs := [42]) (by kernel_rfl) (by simp) ?_
                  refine AllReadyH.cons rfl (fun K hK => ?_) AllReadyH.nil
                  go_simp
                  refine hK _ _ ?_ (fun hHeld => ?_)
                  · exact (HG.out.cell_far _ (by have := World.block_lt_of_cell? _ _ hC; simpa using this) (by simp; omega)).trans hC
                  clear hK K hown hgrow hP hbk hC HG x0 x1 x2 x3 x4 x5 x6 x7 x8 y0 y1 y2 y3 y4 y5 y6 y7 y8
                  generalize World.setCell _ _ (Value.slice A2 (n - sz) c2) = w6 at HK HO HF hHeld ⊢
                  refine wpAnyH_take (i := 43) (v := ?_) rfl (by kernel_rfl) (by kernel_rfl) (by kernel_rfl) (fun _ _ _ h => h) (Or.inl ⟨by rfl, ?_⟩) (by assumption) ?_
                  rotate_left
                  · intro w hSw
                    (try dsimp only at hSw)
                    go_simp
                    try with_reducible rfl
                  try simp only [Act.put, List.getElem_toArray, List.getElem_cons_zero, List.getElem_cons_succ, List.setIfInBounds_toArray, List.set_cons_zero, List.set_cons_succ]
                  refine wpAnyH_done (by kernel_rfl) ?_ _
                  obtain ⟨d0, d1, d2, d3, d4, d5, d6, d7, d8⟩ := HK.out.cells9
                  go_wp2_with fail
                  exact bodyPost_ret (v := .tuple #[.agg #[.int .i64 (v0 : Int), .int .i64 (v2 : Int), .int .u32 (va : Int), .int .u32 (vb : Int), .int .i64 (z63 : Int), .int .i64 (v14 : Int), .int .i64 (v18 : Int), .int .i64 (m : Int), .slice A2 (n - sz) c2], .int .i64 0]) (by simp [results, Try.results16, go_sem, d0, d1, d2, d3, d4, d5, d6, d7, d8]) rfl (sgot_val HOK.out HGR.out HSZ.out HLD.out EV0.out EV2.out E4.out E8.out E13.out EZ63.out EV14.out EV18.out (by exact HO.out) HF.out)
              · go_simp
                have hE := rr_2 hP
                have hP := RR0.al (ob := .cells #[] 5) hP
                refine hK _ _ ?_ (fun hHeld => ?_)
                · exact RR0.cell hP HCW.out
                clear hK K
                try simp only [Act.put, List.getElem_toArray, List.getElem_cons_zero, List.getElem_cons_succ, List.setIfInBounds_toArray, List.set_cons_zero, List.set_cons_succ]
                refine wpAnyH_ready (rs := [2]) (by kernel_rfl) (by simp) ?_
                refine AllReadyH.cons rfl (fun K hK => ?_) AllReadyH.nil
                go_simp
                refine (num_n (off := off) 0 (off) 2 c _ (RR0.bs hP HSW.out) rfl (by rw [HN.out]; omega) (by omega)).mono ?_
                rw [EV0.out]
                rintro e w20 ⟨rfl, hd⟩
                have hP := RR0.dn hP hd
                have hE := ee_d hE hd
                refine hK _ _ ?_ (fun hHeld => ?_)
                · exact RR0.cell hP HCW.out
                clear hK K hd
                try simp only [Act.put, List.getElem_toArray, List.getElem_cons_zero, List.getElem_cons_succ, List.setIfInBounds_toArray, List.set_cons_zero, List.set_cons_succ]
                refine wpAnyH_ready (rs := [5]) (by kernel_rfl) (by simp) ?_
                refine AllReadyH.cons rfl (fun K hK => ?_) AllReadyH.nil
                go_simp
                refine (num_n (off := off) 2 (off + 2) 2 (c - 2) _ (RR0.bs hP HSW.out) rfl (by rw [HN.out]; omega) (by omega)).mono ?_
                rw [EV2.out]
                rintro e w21 ⟨rfl, hd⟩
                have hP := RR0.dn hP hd
                have hE := ee_d hE hd
                refine hK _ _ ?_ (fun hHeld => ?_)
                · exact RR0.cell hP HCW.out
                clear hK K hd
                try simp only [Act.put, List.getElem_toArray, List.getElem_cons_zero, List.getElem_cons_succ, List.setIfInBounds_toArray, List.set_cons_zero, List.set_cons_succ]
                refine wpAnyH_ready (rs := [8]) (by kernel_rfl) (by simp) ?_
                refine AllReadyH.cons rfl (fun K hK => ?_) AllReadyH.nil
                go_simp
                refine (num_n (off := off) 4 (off + 4) 2 (c - 4) _ (RR0.bs hP HSW.out) rfl (by rw [HN.out]; omega) (by omega)).mono ?_
                rw [EV4.out]
                rintro e w22 ⟨rfl, hd⟩
                have hP := RR0.dn hP hd
                have hE := ee_d hE hd
                refine hK _ _ ?_ (fun hHeld => ?_)
                · exact RR0.cell hP HCW.out
                clear hK K hd
                try simp only [Act.put, List.getElem_toArray, List.getElem_cons_zero, List.getElem_cons_succ, List.setIfInBounds_toArray, List.set_cons_zero, List.set_cons_succ]
                refine wpAnyH_take (i := 9) (v := ?_) rfl (by kernel_rfl) (by kernel_rfl) (by kernel_rfl) (fun _ _ _ h => h) (Or.inl ⟨by rfl, ?_⟩) (by assumption) ?_
                rotate_left
                · intro w hSw
                  (try dsimp only at hSw)
                  go_simp
                  try with_reducible rfl
                try simp only [Act.put, List.getElem_toArray, List.getElem_cons_zero, List.getElem_cons_succ, List.setIfInBounds_toArray, List.set_cons_zero, List.set_cons_succ]
                refine wpAnyH_ready (rs := [12]) (by kernel_rfl) (by simp) ?_
                refine AllReadyH.cons rfl (fun K hK => ?_) AllReadyH.nil
                go_simp
                refine (num_n (off := off) 6 (off + 6) 2 (c - 6) _ (RR0.bs hP HSW.out) rfl (by rw [HN.out]; omega) (by omega)).mono ?_
                rw [EV6.out]
                rintro e w23 ⟨rfl, hd⟩
                have hP := RR0.dn hP hd
                have hE := ee_d hE hd
                refine hK _ _ ?_ (fun hHeld => ?_)
                · exact RR0.cell hP HCW.out
                clear hK K hd
                try simp only [Act.put, List.getElem_toArray, List.getElem_cons_zero, List.getElem_cons_succ, List.setIfInBounds_toArray, List.set_cons_zero, List.set_cons_succ]
                refine wpAnyH_take (i := 13) (v := ?_) rfl (by kernel_rfl) (by kernel_rfl) (by kernel_rfl) (fun _ _ _ h => h) (Or.inl ⟨by rfl, ?_⟩) (by assumption) ?_
                rotate_left
                · intro w hSw
                  (try dsimp only at hSw)
                  go_simp
                  try with_reducible rfl
                try simp only [Act.put, List.getElem_toArray, List.getElem_cons_zero, List.getElem_cons_succ, List.setIfInBounds_toArray, List.set_cons_zero, List.set_cons_succ]
                refine wpAnyH_take (i := 14) (v := ?_) rfl (by kernel_rfl) (by kernel_rfl) (by kernel_rfl) (fun _ _ _ h => h) (Or.inl ⟨by rfl, ?_⟩) (by assumption) ?_
                rotate_left
                · intro w hSw
                  (try dsimp only at hSw)
                  go_simp
                  try with_reducible rfl
                try simp only [Act.put, List.getElem_toArray, List.getElem_cons_zero, List.getElem_cons_succ, List.setIfInBounds_toArray, List.set_cons_zero, List.set_cons_succ]
                refine wpAnyH_ready (rs := [17]) (by kernel_rfl) (by simp) ?_
                refine AllReadyH.cons rfl (fun K hK => ?_) AllReadyH.nil
                go_simp
                refine (num_n (off := off) 8 (off + 8) 2 (c - 8) _ (RR0.bs hP HSW.out) rfl (by rw [HN.out]; omega) (by omega)).mono ?_
                rw [EV8.out]
                rintro e w24 ⟨rfl, hd⟩
                have hP := RR0.dn hP hd
                have hE := ee_d hE hd
                refine hK _ _ ?_ (fun hHeld => ?_)
                · exact RR0.cell hP HCW.out
                clear hK K hd
                try simp only [Act.put, List.getElem_toArray, List.getElem_cons_zero, List.getElem_cons_succ, List.setIfInBounds_toArray, List.set_cons_zero, List.set_cons_succ]
                refine wpAnyH_take (i := 18) (v := ?_) rfl (by kernel_rfl) (by kernel_rfl) (by kernel_rfl) (fun _ _ _ h => h) (Or.inl ⟨by rfl, ?_⟩) (by assumption) ?_
                rotate_left
                · intro w hSw
                  (try dsimp only at hSw)
                  go_simp
                  try with_reducible rfl
                try simp only [Act.put, List.getElem_toArray, List.getElem_cons_zero, List.getElem_cons_succ, List.setIfInBounds_toArray, List.set_cons_zero, List.set_cons_succ]
                refine wpAnyH_ready (rs := [21]) (by kernel_rfl) (by simp) ?_
                refine AllReadyH.cons rfl (fun K hK => ?_) AllReadyH.nil
                go_simp
                refine (num_n (off := off) 10 (off + 10) 2 (c - 10) _ (RR0.bs hP HSW.out) rfl (by rw [HN.out]; omega) (by omega)).mono ?_
                rw [EV10.out]
                rintro e w25 ⟨rfl, hd⟩
                have hP := RR0.dn hP hd
                have hE := ee_d hE hd
                refine hK _ _ ?_ (fun hHeld => ?_)
                · exact RR0.cell hP HCW.out
                clear hK K hd
                try simp only [Act.put, List.getElem_toArray, List.getElem_cons_zero, List.getElem_cons_succ, List.setIfInBounds_toArray, List.set_cons_zero, List.set_cons_succ]
                refine wpAnyH_take (i := 22) (v := ?_) rfl (by kernel_rfl) (by kernel_rfl) (by kernel_rfl) (fun _ _ _ h => h) (Or.inl ⟨by rfl, ?_⟩) (by assumption) ?_
                rotate_left
                · intro w hSw
                  (try dsimp only at hSw)
                  go_simp
                  try with_reducible rfl
                try simp only [Act.put, List.getElem_toArray, List.getElem_cons_zero, List.getElem_cons_succ, List.setIfInBounds_toArray, List.set_cons_zero, List.set_cons_succ]
                refine wpAnyH_take (i := 23) (v := ?_) rfl (by kernel_rfl) (by kernel_rfl) (by kernel_rfl) (fun _ _ _ h => h) (Or.inl ⟨by rfl, ?_⟩) (by assumption) ?_
                rotate_left
                · intro w hSw
                  (try dsimp only at hSw)
                  go_simp
                  try with_reducible rfl
                try simp only [Act.put, List.getElem_toArray, List.getElem_cons_zero, List.getElem_cons_succ, List.setIfInBounds_toArray, List.set_cons_zero, List.set_cons_succ]
                refine wpAnyH_ready (rs := [31]) (by kernel_rfl) (by simp) ?_
                refine AllReadyH.cons rfl (fun K hK => ?_) AllReadyH.nil
                go_simp
                refine (num_n (off := off) 14 (off + 14) 2 (c - 14) _ (RR0.bs hP HSW.out) rfl (by rw [HN.out]; omega) (by omega)).mono ?_
                rw [EV14.out]
                rintro e w26 ⟨rfl, hd⟩
                have hP := RR0.dn hP hd
                have hE := ee_d hE hd
                refine hK _ _ ?_ (fun hHeld => ?_)
                · exact RR0.cell hP HCW.out
                clear hK K hd
                try simp only [Act.put, List.getElem_toArray, List.getElem_cons_zero, List.getElem_cons_succ, List.setIfInBounds_toArray, List.set_cons_zero, List.set_cons_succ]
                refine wpAnyH_ready (rs := [34]) (by kernel_rfl) (by simp) ?_
                refine AllReadyH.cons rfl (fun K hK => ?_) AllReadyH.nil
                go_simp
                refine (num_n (off := off) 18 (off + 18) 2 (c - 18) _ (RR0.bs hP HSW.out) rfl (by rw [HN.out]; omega) (by omega)).mono ?_
                rw [EV18.out]
                rintro e w27 ⟨rfl, hd⟩
                have hP := RR0.dn hP hd
                have hE := ee_d hE hd
                refine hK _ _ ?_ (fun hHeld => ?_)
                · exact RR0.cell hP HCW.out
                clear hK K hd
                try simp only [Act.put, List.getElem_toArray, List.getElem_cons_zero, List.getElem_cons_succ, List.setIfInBounds_toArray, List.set_cons_zero, List.set_cons_succ]
                refine wpAnyH_ready (rs := [40]) (by kernel_rfl) (by simp) ?_
                refine AllReadyH.cons rfl (fun K hK => ?_) AllReadyH.nil
                refine step_appn _ (by rfl) _ _ (by rfl) (w.heap.size + 1) _ 0 [] 0 rfl (by rfl) (ee_own hE) ZA (c - sz) (bs.drop sz) (n - sz) HLD.out (by rfl) (RR0.sl hP HZA.out) (by rw [HLD.out]; simp; omega) (RR0.lt hP) ?_
                intro A2 c2 w5 hown hgrow
                have hP := RR0.grown hP hE hgrow
                have hC := RR0.cell hP HCW.out
                refine hK _ _ ?_ (fun hHeld => ?_)
                · exact hC
                clear hK K
                try simp only [Act.put, List.getElem_toArray, List.getElem_cons_zero, List.getElem_cons_succ, List.setIfInBounds_toArray, List.set_cons_zero, List.set_cons_succ]
                refine wpAnyH_take (i := 41) (v := ?_) rfl (by kernel_rfl) (by kernel_rfl) (by kernel_rfl) (fun _ _ _ h => h) (Or.inl ⟨by rfl, ?_⟩) (by assumption) ?_
                rotate_left
                · intro w hSw
                  (try dsimp only at hSw)
                  go_simp
                  try with_reducible rfl
                try simp only [Act.put, List.getElem_toArray, List.getElem_cons_zero, List.getElem_cons_succ, List.setIfInBounds_toArray, List.set_cons_zero, List.set_cons_succ]
                obtain ⟨va, EVA⟩ : ∃ v : Nat, Hid (v4 * 65536 + v6 = v) := ⟨_, rfl⟩
                obtain ⟨vb, EVB⟩ : ∃ v : Nat, Hid (v8 * 65536 + v10 = v) := ⟨_, rfl⟩
                rw [EVA.out] at E4 UA
                rw [EVB.out] at E8 UB
                have hbk := Lib.hid hP.2
                obtain ⟨x0, x1, x2, x3, x4, x5, x6, x7, x8⟩ := hbk.out.cells9
                obtain ⟨y0, y1, y2, y3, y4, y5, y6, y7, y8⟩ := hbk.out.frees9
                rw [UA.out, UB.out]
                have st := hbk.out.store9 (.int .i64 (v0 : Int)) (.int .i64 (v2 : Int)) (.int .u32 (va : Int)) (.int .u32 (vb : Int)) (.int .i64 (z63 : Int)) (.int .i64 (v14 : Int)) (.int .i64 (v18 : Int)) (.int .i64 (m : Int)) (.slice A2 (n - sz) c2)
                have HO := Lib.hid ((hown.grown hbk.out (by decide) st.2).sl)
                have HF := Lib.hid (below_grown hP.1 st.2 (Nat.le_refl _) (Nat.le_refl _))
                have HK := Lib.hid st.1
                have HG := Lib.hid st.2
                clear st
                refine wpAnyH_ready (rs := [42]) (by kernel_rfl) (by simp) ?_
                refine AllReadyH.cons rfl (fun K hK => ?_) AllReadyH.nil
                go_simp
                refine hK _ _ ?_ (fun hHeld => ?_)
                · exact (HG.out.cell_far _ (by have := World.block_lt_of_cell? _ _ hC; simpa using this) (by simp; omega)).trans hC
                clear hK K hown hgrow hP hbk hC HG x0 x1 x2 x3 x4 x5 x6 x7 x8 y0 y1 y2 y3 y4 y5 y6 y7 y8
                generalize World.setCell _ _ (Value.slice A2 (n - sz) c2) = w6 at HK HO HF hHeld ⊢
                refine wpAnyH_take (i := 43) (v := ?_) rfl (by kernel_rfl) (by kernel_rfl) (by kernel_rfl) (fun _ _ _ h => h) (Or.inl ⟨by rfl, ?_⟩) (by assumption) ?_
                rotate_left
                · intro w hSw
                  (try dsimp only at hSw)
                  go_simp
                  try with_reducible rfl
                try simp only [Act.put, List.getElem_toArray, List.getElem_cons_zero, List.getElem_cons_succ, List.setIfInBounds_toArray, List.set_cons_zero, List.set_cons_succ]
                refine wpAnyH_done (by kernel_rfl) ?_ _
                obtain ⟨d0, d1, d2, d3, d4, d5, d6, d7, d8⟩ := HK.out.cells9
                go_wp2_with fail
                exact bodyPost_ret (v := .tuple #[.agg #[.int .i64 (v0 : Int), .int .i64 (v2 : Int), .int .u32 (va : Int), .int .u32 (vb : Int), .int .i64 (z63 : Int), .int .i64 (v14 : Int), .int .i64 (v18 : Int), .int .i64 (m : Int), .slice A2 (n - sz) c2], .int .i64 0]) (by simp [results, Try.results16, go_sem, d0, d1, d2, d3, d4, d5, d6, d7, d8]) rfl (sgot_val HOK.out HGR.out HSZ.out HLD.out EV0.out EV2.out E4.out E8.out E13.out EZ63.out EV14.out EV18.out (by exact HO.out) HF.out)
          · have NO : Hid (readS f t bs = none) := readS_bad (fun h => htt (by rw [← ET.out]; exact h.2.2.2))
            have hne : ((tt : Int) != 65535) = true := by simp; omega
            go_wp2_with fail
            refine (PA.out _).mono ?_
            rintro e w2 ⟨rfl, hb2⟩
            have HSA := Lib.hid (HS.out.below hb2)
            go_wp2_with fail
            refine (TA.out _ HSA.out.1).mono ?_
            rintro e w2' ⟨rfl, rfl⟩
            clear HSA PA
            have HX2 := Lib.hid (HX.out.below hb2 HX.out.lt)
            have HB2 := Lib.hid (HB.out.trans (hb2.mono HB.out.size))
            clear hb2 HX HB HS TA
            obtain ⟨r0, r1, r2, r3, r4, r5, r6, r7, r8⟩ := HX2.out.cells9
            obtain ⟨g0, g1, g2, g3, g4, g5, g6, g7, g8⟩ := HX2.out.frees9
            have st := HX2.out.store9 (.int .i64 0) (.int .i64 0) (.int .u32 0) (.int .u32 0) (.int .i64 0) (.int .i64 0) (.int .i64 0) (.int .i64 0) (.slice none 0 0)
            have hfz := below_grown HB2.out st.2 (Nat.le_refl _) (Nat.le_refl _)
            have HFZ := Lib.hid hfz
            have HKZ := Lib.hid st.1
            clear st hfz
            go_wp2_with fail
            generalize World.setCell _ _ (Value.slice none 0 0) = w9 at HKZ HFZ ⊢
            obtain ⟨d0, d1, d2, d3, d4, d5, d6, d7, d8⟩ := HKZ.out.cells9
            exact bodyPost_ret (v := .tuple #[.agg #[.int .i64 0, .int .i64 0, .int .u32 0, .int .u32 0, .int .i64 0, .int .i64 0, .int .i64 0, .int .i64 0, .slice none 0 0], .int .i64 110]) (by simp [results, Try.results16, go_sem, d0, d1, d2, d3, d4, d5, d6, d7, d8]) rfl (sgot_no NO.out HFZ.out)
end Go.Proofs.Ytpnfdnnfhmecjaa
