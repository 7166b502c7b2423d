/-
  The walk of seg.Read.
-/
import Derived.Test.YtpnfdnnfhmecjaaSegG
import Derived.Test.YtpnfdnnfhmecjaaSegC
namespace Go.Proofs.Ytpnfdnnfhmecjaa
open Go.RowKit
set_option linter.unusedVariables false

/-- What Read answers. -/
def rS (f t : Int) (bs : List UInt8) : SG := match readS f t bs with | some (s, _) => s | none => sg0
def rD (f t : Int) (bs : List UInt8) : List UInt8 := match readS f t bs with | some (_, d) => d | none => []
def rE (f t : Int) (bs : List UInt8) : Int := if (readS f t bs).isSome then 0 else 110
abbrev segS (s : SG) (D : Option Addr) (n c : Nat) : Array Value := segV s.from_ s.to_ s.seq s.ack s.flags s.window s.urgent s.greatest D n c
def SGot (f t : Int) (bs : List UInt8) (w : World) (e : Ending) (w' : World) : Prop :=
  ∃ X x, e = .returned (.tuple #[.agg (segS (rS f t bs) X (rD f t bs).length x), .int .i64 (rE f t bs)]) ∧ Sl w' X x (rD f t bs) ∧ Below w.heap.size w w'
theorem sgot_no {f t : Int} {bs : List UInt8} {w w' : World} (h : readS f t bs = none) (hb : Below w.heap.size w w') : SGot f t bs w (.returned (.tuple #[.agg #[.int .i64 0, .int .i64 0, .int .u32 0, .int .u32 0, .int .i64 0, .int .i64 0, .int .i64 0, .int .i64 0, .slice none 0 0], .int .i64 110])) w' := by
  refine ⟨none, 0, ?_, ?_, hb⟩
  · simp only [rS, rD, rE, h]; rfl
  · simp only [rD, h]; exact ⟨.inl rfl, by simp, by simp, fun _ => rfl⟩
theorem sgot_yes {f t : Int} {bs : List UInt8} {w w' : World} {m : Nat} {X : Option Addr} {x n : Nat} (h : okHead f t bs) (hg : gre 0 (optsOf bs) = some m) (hn : (bs.drop (sizeOf_ bs)).length = n) (hs : Sl w' X x (bs.drop (sizeOf_ bs))) (hb : Below w.heap.size w w') :
    SGot f t bs w (.returned (.tuple #[.agg (segS (sgOf bs m) X n x), .int .i64 0])) w' := by
  have hr : readS f t bs = some (sgOf bs m, bs.drop (sizeOf_ bs)) := by rw [readS, if_pos h, hg]; rfl
  refine ⟨X, x, ?_, ?_, hb⟩
  · simp only [rS, rD, rE, hr, hn]; rfl
  · simp only [rD, hr]; exact hs
theorem sgot_val {f t : Int} {bs : List UInt8} {w w' : World} {m sz n v0 v2 v4 v8 z v14 v18 : Nat} {x13 : UInt8} {X : Option Addr} {x : Nat} (h : okHead f t bs) (hg : gre 0 (optsOf bs) = some m) (hz : sizeOf_ bs = sz) (hn : (bs.drop sz).length = n)
    (e0 : get2 bs 0 = v0) (e2 : get2 bs 2 = v2) (e4 : get4 bs 4 = v4) (e8 : get4 bs 8 = v8) (e13 : bs.getD 13 0 = x13) (ez : x13.toNat % 64 = z) (e14 : get2 bs 14 = v14) (e18 : get2 bs 18 = v18) (hs : Sl w' X x ([] ++ bs.drop sz)) (hb : Below w.heap.size w w') :
    SGot f t bs w (.returned (.tuple #[.agg #[.int .i64 (v0 : Int), .int .i64 (v2 : Int), .int .u32 (v4 : Int), .int .u32 (v8 : Int), .int .i64 (z : Int), .int .i64 (v14 : Int), .int .i64 (v18 : Int), .int .i64 (m : Int), .slice X n x], .int .i64 0])) w' := by
  subst e0 e2 e4 e8 e13 ez e14 e18 hz
  exact sgot_yes h hg hn hs hb
theorem readS_bad {f t : Int} {bs : List UInt8} (h : ¬ okHead f t bs) : readS f t bs = none := by rw [readS, if_neg h]
theorem readS_none {f t : Int} {bs : List UInt8} (h : okHead f t bs) (hg : gre 0 (optsOf bs) = none) : readS f t bs = none := by rw [readS, if_pos h, hg]; rfl
/-- What holds where it is wrong. -/
def WJ (f t : Int) (bs : List UInt8) (w : World) (a' : Act) (w' : World) : Prop :=
  readS f t bs = none ∧ Blk w' w.heap.size 26 #[.int .i64 0, .int .i64 0, .int .u32 0, .int .u32 0, .int .i64 0, .int .i64 0, .int .i64 0, .int .i64 0, .slice none 0 0] ∧ Below w.heap.size w w' ∧ ∃ u0 u1 u2 u3 u4 u5 u7 u8 u9 u10 u11 u12 u13 u14 u15 u16 u17 u18 u19 u20 u21 u22 u23 u24 u25 u26 u27 u28 u29 u30 u31 u32 u33 u34 u35 u36 u37 u38 u39 u40 u41 u42 u43 u44 u45 u46 u47 u48 u49 u50 u51 u52 u53 u54 u55 u56 u57 u58 u59 u60 u61 u62 u63 u64 u65 u66 u67 u68 u69 u70 u71 u72 u73 : Value, a' = { tmps := #[u0, u1, u2, u3, u4, u5, .pointer (some ⟨w.heap.size, 0, none⟩), u7, u8, u9, u10, u11, u12, u13, u14, u15, u16, u17, u18, u19, u20, u21, u22, u23, u24, u25, u26, u27, u28, u29, u30, u31, u32, u33, u34, u35, u36, u37, u38, u39, u40, u41, u42, u43, u44, u45, u46, u47, u48, u49, u50, u51, u52, u53, u54, u55, u56, u57, u58, u59, u60, u61, u62, u63, u64, u65, u66, u67, u68, u69, u70, u71, u72, u73], defers := [] }

/-- In the last region, ahead of the store. -/
def RS0 (w0 W : World) : Prop := Below w0.heap.size w0 W ∧ Blk W w0.heap.size 26 #[.int .i64 0, .int .i64 0, .int .u32 0, .int .u32 0, .int .i64 0, .int .i64 0, .int .i64 0, .int .i64 0, .slice none 0 0]
def EE (w0 : World) (g : Nat) (w' : World) : Prop := w0.heap.size < g ∧ Blk w' g 5 #[]
section
variable {w0 W W' : World} {p : Addr} {v : Value} {g : Nat}
theorem cell_drew0 (h : W.cell? p = some v) : W.drew.cell? p = some v := h
theorem cell_aldrew {ob : Obj} (h : W.cell? p = some v) : (W.alloc ob).drew.cell? p = some v := cell_alloc_old (o := ob) h
theorem cell_drawn (hd : Drawn W W') (h : W.cell? p = some v) : W'.cell? p = some v := (hd.cell p).trans h
theorem RS0.below (h : RS0 w0 W) (hb : Below W.heap.size W W') : RS0 w0 W' := ⟨h.1.trans (hb.mono h.1.size), h.2.below hb h.2.lt⟩
theorem RS0.dn (h : RS0 w0 W) (hd : Drawn W W') : RS0 w0 W' := h.below (hd.below _)
theorem RS0.dw (h : RS0 w0 W) : RS0 w0 W.drew := h.dn ⟨1, rfl⟩
theorem RS0.al {ob : Obj} (h : RS0 w0 W) : RS0 w0 (W.alloc ob) := h.below ((Below.refl _ _).alloc (Nat.le_refl _) _)
theorem RS0.aldw {ob : Obj} (h : RS0 w0 W) : RS0 w0 (W.alloc ob).drew := h.al.dw
theorem RS0.d1 (hd : Drawn W.drew W') (h : RS0 w0 W) : RS0 w0 W' := h.dw.dn hd
theorem RS0.d2 {ob : Obj} (hd : Drawn (W.alloc ob) W') (h : RS0 w0 W) : RS0 w0 W' := h.al.dn hd
theorem RS0.d3 {ob : Obj} (hd : Drawn (W.alloc ob).drew W') (h : RS0 w0 W) : RS0 w0 W' := h.aldw.dn hd
theorem RS0.bs {A : Option Addr} {c : Nat} {bs : List UInt8} (h : RS0 w0 W) (hs : Sl w0 A c bs) : Bs W A bs := hs.1.below h.1
theorem RS0.sl {A : Option Addr} {c : Nat} {bs : List UInt8} (h : RS0 w0 W) (hs : Sl w0 A c bs) : Sl W A c bs := hs.below h.1
theorem RS0.lt (h : RS0 w0 W) : w0.heap.size + 1 ≤ W.heap.size := h.2.lt
theorem RS0.grown {n c : Nat} (h : RS0 w0 W) (hE : EE w0 g W) (hg : W.grownBy W' (Value.slice (some ⟨g, 0, none⟩) n c).ownBlock) : RS0 w0 W' := by
  have hg' : W.grownBy W' (some g) := hg
  exact ⟨below_grown h.1 hg' (Nat.le_refl _) (Nat.le_of_lt hE.1), h.2.grown hg' (by have := hE.1; omega)⟩
theorem RS0.cell (h : RS0 w0 W) (hw : w0.cell? p = some v) : W.cell? p = some v := keep_below h.1 _ _ hw
theorem ee_d (hE : EE w0 g W) (hd : Drawn W W') : EE w0 g W' := ⟨hE.1, hE.2.below (hd.below W.heap.size) hE.2.lt⟩
theorem ee_0 (h : RS0 w0 W) (hd : Drawn (W.alloc (.cells #[] 5)) W') : EE w0 W.heap.size W' := ⟨h.2.lt, (blk_new W _ _).below (hd.below (W.alloc (.cells #[] 5)).heap.size) (by simp)⟩
theorem ee_1 (h : RS0 w0 W) (hd : Drawn (W.alloc (.cells #[] 5)).drew W') : EE w0 W.heap.size W' := ee_0 h ((show Drawn _ _ from ⟨1, rfl⟩).trans hd)
theorem ee_2 (h : RS0 w0 W) : EE w0 W.heap.size (W.alloc (.cells #[] 5)) := ee_0 h (Drawn.refl _)
theorem ee_own (h : EE w0 g W) : Own W (w0.heap.size + 1) (some ⟨g, 0, none⟩) 0 [] := own_nil_blk h.2 h.1
end
theorem u8_and63 (x : UInt8) : bits .and .u8 (x.toNat : Int) 63 = ((x.toNat % 64 : Nat) : Int) := by
  have := u8_and_nat x.toNat 63 x.toNat_lt (by omega)
  rw [show x.toNat &&& 63 = x.toNat % 64 from Nat.and_two_pow_sub_one_eq_mod x.toNat 6] at this
  exact this

set_option maxHeartbeats 8000000 in
set_option maxRecDepth 100000 in
theorem segread_any (f t : Int) (A : Option Addr) (bs : List UInt8) (n c : Nat) (w : World) (hn : bs.length = n) (hs : Sl w A c bs) (hl : (n : Int) ≤ 70000) (f0 : 0 ≤ f) (f1 : f < 4294967296) (t0 : 0 ≤ t) (t1 : t < 4294967296) :
    Calls Try.prog 14 #[.int .u32 f, .int .u32 t, .slice A n c] w (SGot f t bs w) := by
  have hb : Below w.heap.size w (w.alloc (.cells #[.int .i64 0, .int .i64 0, .int .u32 0, .int .u32 0, .int .i64 0, .int .i64 0, .int .i64 0, .int .i64 0, .slice none 0 0] 26)) := (Below.refl _ _).alloc (Nat.le_refl _) _
  have hbx := blk_new w 26 #[.int .i64 0, .int .i64 0, .int .u32 0, .int .u32 0, .int .i64 0, .int .i64 0, .int .i64 0, .int .i64 0, .slice none 0 0]
  have HN := Lib.hid hn
  have HSW := Lib.hid hs
  have HB := Lib.hid hb
  have HX := Lib.hid hbx
  have HS := Lib.hid (hs.below hb)
  have hcap : (n : Int) ≤ c := by have := hs.2.1; rw [hn] at this; omega
  clear hn hs hb hbx
  go_enter Try.func14, Try.ntmps14
  go_wp2_with fail
  generalize w.alloc (.cells #[.int .i64 0, .int .i64 0, .int .u32 0, .int .u32 0, .int .i64 0, .int .i64 0, .int .i64 0, .int .i64 0, .slice none 0 0] 26) = w1 at *
  refine wp_scope_jumps 0 (WJ f t bs w) (fun _ _ => 0) rfl ?first ?pass
  case pass =>
    clear HX HB HS
    rintro a' W ⟨hno, hrs, hb, u0, u1, u2, u3, u4, u5, u7, u8, u9, u10, u11, u12, u13, u14, u15, u16, u17, u18, u19, u20, u21, u22, u23, u24, u25, u26, u27, u28, u29, u30, u31, u32, u33, u34, u35, u36, u37, u38, u39, u40, u41, u42, u43, u44, u45, u46, u47, u48, u49, u50, u51, u52, u53, u54, u55, u56, u57, u58, u59, u60, u61, u62, u63, u64, u65, u66, u67, u68, u69, u70, u71, u72, u73, rfl⟩
    obtain ⟨r0, r1, r2, r3, r4, r5, r6, r7, r8⟩ := hrs.cells9
    obtain ⟨g0, g1, g2, g3, g4, g5, g6, g7, g8⟩ := hrs.frees9
    obtain ⟨hk, hg⟩ := hrs.store9 (.int .i64 0) (.int .i64 0) (.int .u32 0) (.int .u32 0) (.int .i64 0) (.int .i64 0) (.int .i64 0) (.int .i64 0) (.slice none 0 0)
    have HK := Lib.hid hk
    have HB := Lib.hid (below_grown hb hg (Nat.le_refl _) (by omega))
    have HNO := Lib.hid hno
    clear hk hg hb hrs hno
    go_wp2_with fail
    generalize World.setCell _ _ (Value.slice none 0 0) = w5 at HK HB ⊢
    simp only [Exit.jump]
    obtain ⟨d0, d1, d2, d3, d4, d5, d6, d7, d8⟩ := HK.out.cells9
    exact bodyPost_ret (v := .tuple #[.agg #[.int .i64 0, .int .i64 0, .int .u32 0, .int .u32 0, .int .i64 0, .int .i64 0, .int .i64 0, .int .i64 0, .slice none 0 0], .int .i64 110]) (by simp [results, Try.results14, go_sem, d0, d1, d2, d3, d4, d5, d6, d7, d8]) rfl (sgot_no HNO.out HB.out)
  case first =>
    by_cases hn20 : (n : Int) < 20
    · have NO : Hid (readS f t bs = none) := readS_bad (fun h => by have := h.1; rw [HN.out] at this; omega)
      go_wp2_with fail
      go_step3
      exact ⟨rfl, NO.out, HX.out, HB.out, _, _, _, _, _, _, _, _, _, _, _, _, _, _, _, _, _, _, _, _, _, _, _, _, _, _, _, _, _, _, _, _, _, _, _, _, _, _, _, _, _, _, _, _, _, _, _, _, _, _, _, _, _, _, _, _, _, _, _, _, _, _, _, _, _, _, _, _, _, _, _, _, _, rfl⟩
    · obtain ⟨b, off, rfl, hc⟩ := HS.out.1.at_ (by rw [HN.out]; omega)
      have c12 := hc 12 (by rw [HN.out]; omega)
      clear hc
      have i12 : (12 : Int) < (n : Int) := by omega
      obtain ⟨x, EX⟩ : ∃ x, Hid (bs.getD 12 0 = x) := ⟨_, rfl⟩
      rw [EX.out] at c12
      have hx := x.toNat_lt
      have ESZ : Hid (sizeOf_ bs = 4 * (x.toNat / 16)) := by show _ = _; rw [sizeOf_, EX.out]
      obtain ⟨sz, HSZ⟩ : ∃ sz : Nat, Hid (sizeOf_ bs = sz) := ⟨_, rfl⟩
      have hsz : ((4 : Int) * ((x.toNat : Int) / 16)) = (sz : Int) := by rw [← HSZ.out, ESZ.out]; omega
      have hsz60 : sz ≤ 60 := by rw [← HSZ.out, ESZ.out]; omega
      by_cases hs20 : (sz : Int) < 20
      · have NO : Hid (readS f t bs = none) := readS_bad (fun h => by have := h.2.1; rw [HSZ.out] at this; omega)
        go_wp2_with fail
        go_step3
        exact ⟨rfl, NO.out, HX.out, HB.out, _, _, _, _, _, _, _, _, _, _, _, _, _, _, _, _, _, _, _, _, _, _, _, _, _, _, _, _, _, _, _, _, _, _, _, _, _, _, _, _, _, _, _, _, _, _, _, _, _, _, _, _, _, _, _, _, _, _, _, _, _, _, _, _, _, _, _, _, _, _, _, _, _, rfl⟩
      · by_cases hsn : (n : Int) < (sz : Int)
        · have NO : Hid (readS f t bs = none) := readS_bad (fun h => by have := h.2.2.1; rw [HSZ.out, HN.out] at this; omega)
          go_wp2_with fail
          go_step3
          exact ⟨rfl, NO.out, HX.out, HB.out, _, _, _, _, _, _, _, _, _, _, _, _, _, _, _, _, _, _, _, _, _, _, _, _, _, _, _, _, _, _, _, _, _, _, _, _, _, _, _, _, _, _, _, _, _, _, _, _, _, _, _, _, _, _, _, _, _, _, _, _, _, _, _, _, _, _, _, _, _, _, _, _, _, rfl⟩
        · have TA := Lib.hid (total_n f t (some ⟨b, off, none⟩) bs n c w1 f0 f1 t0 t1 HN.out HS.out.1 hl)
          obtain ⟨tt, ET⟩ : ∃ tt, Hid (totalN f t bs = tt) := ⟨_, rfl⟩
          rw [ET.out] at TA
          by_cases htt : tt = 65535
          · have HOK : Hid (okHead f t bs) := ⟨by rw [HN.out]; omega, by rw [HSZ.out]; omega, by rw [HSZ.out, HN.out]; omega, by rw [ET.out]; exact htt⟩
            rw [htt] at TA
            clear htt ET
            go_wp2_with fail
            refine TA.out.mono ?_
            rintro e w2 ⟨rfl, hb2⟩
            have HX2 := Lib.hid (HX.out.below hb2 HX.out.lt)
            have HB2 := Lib.hid (HB.out.trans (hb2.mono HB.out.size))
            have HS2 := Lib.hid (HS.out.below hb2)
            replace c12 := keep_below hb2 _ _ c12
            clear hb2 HX HB HS TA
            have hot := (HS2.out.take sz).cut 20 (by rw [List.length_take, HN.out]; omega)
            simp only [Option.map_some, add_lit'] at hot
            obtain ⟨AA, EA⟩ : ∃ AA, (if c = 20 then some (⟨b, off, none⟩ : Addr) else some (⟨b, off + 20, none⟩ : Addr)) = AA := ⟨_, rfl⟩
            rw [EA] at hot
            have HEO : Hid (optsOf bs = (bs.take sz).drop 20) := by show _ = _; rw [optsOf, HSZ.out]
            rw [← HEO.out] at hot
            have HLO : Hid ((optsOf bs).length = sz - 20) := by show _ = _; rw [HEO.out, List.length_drop, List.length_take, HN.out]; omega
            have GA := Lib.hid (greatest_n AA (optsOf bs) (sz - 20) (c - 20) w2 HLO.out hot (by omega))
            clear hot
            have i20 : (20 : Int) ≤ (sz : Int) := by omega
            have i20c : (sz : Int) ≤ (c : Int) := by omega
            cases hgr : gre 0 (optsOf bs) with
            | none =>
              have NO : Hid (readS f t bs = none) := readS_none HOK.out hgr
              rw [hgr] at GA
              clear hgr
              go_wp2_with fail
              refine GA.out.mono ?_
              rintro e w3 ⟨rfl, hd3⟩
              have HX3 := Lib.hid (HX2.out.below (hd3.below w2.heap.size) HX2.out.lt)
              have HB3 := Lib.hid (HB2.out.trans (hd3.below _))
              clear hd3 GA
              go_wp2_with fail
              go_step3
              exact ⟨rfl, NO.out, HX3.out, HB3.out, _, _, _, _, _, _, _, _, _, _, _, _, _, _, _, _, _, _, _, _, _, _, _, _, _, _, _, _, _, _, _, _, _, _, _, _, _, _, _, _, _, _, _, _, _, _, _, _, _, _, _, _, _, _, _, _, _, _, _, _, _, _, _, _, _, _, _, _, _, _, _, _, _, rfl⟩
            | some m =>
              have HGR := Lib.hid hgr
              rw [hgr] at GA
              clear hgr
              go_wp2_with fail
              refine GA.out.mono ?_
              rintro e w3 ⟨rfl, hd3⟩
              have HX3 := Lib.hid (HX2.out.below (hd3.below w2.heap.size) HX2.out.lt)
              have HB3 := Lib.hid (HB2.out.trans (hd3.below _))
              clear hd3 GA HX2 HB2 HS2 c12
              obtain ⟨b', off', e', hcw⟩ := HSW.out.1.at_ (by rw [HN.out]; omega)
              injection e' with e'
              injection e' with e1 e2
              subst e1 e2
              have c13w := hcw 13 (by rw [HN.out]; omega)
              have lbw := World.block_lt_of_cell? w _ c13w
              obtain ⟨x13, E13⟩ : ∃ x, Hid (bs.getD 13 0 = x) := ⟨_, rfl⟩
              rw [E13.out] at c13w
              have hP : RS0 w w3 := ⟨HB3.out, HX3.out⟩
              have HCW := Lib.hid c13w
              have nb0 : b ≠ w.heap.size := by simp at lbw; omega
              have c13 := hP.cell c13w
              obtain ⟨ZA, EZA⟩ : ∃ ZA, (if c = sz then some (⟨b, off, none⟩ : Addr) else some (⟨b, off + sz, none⟩ : Addr)) = ZA := ⟨_, rfl⟩
              have hza := HSW.out.cut sz (by rw [HN.out]; omega)
              simp only [Option.map_some, add_lit'] at hza
              rw [EZA] at hza
              have HZA := Lib.hid hza
              have HLD : Hid ((bs.drop sz).length = n - sz) := by show _ = _; rw [List.length_drop, HN.out]
              have h63 := u8_and63 x13
              obtain ⟨z63, EZ63⟩ : ∃ z, Hid (x13.toNat % 64 = z) := ⟨_, rfl⟩
              have hz63 : z63 < 64 := by rw [← EZ63.out]; omega
              rw [EZ63.out] at h63
              have w63 : IntKind.i64.wrap (z63 : Int) = (z63 : Int) := IntWalk.i64_in _ (by omega)
              have isz : (sz : Int) ≤ (n : Int) := by omega
              clear hcw c13w hza HB3 HX3 lbw hx hsz hsz60 hs20 hsn
              obtain ⟨v0, EV0⟩ : ∃ v, Hid (get2 bs 0 = v) := ⟨_, rfl⟩
              obtain ⟨v2, EV2⟩ : ∃ v, Hid (get2 bs 2 = v) := ⟨_, rfl⟩
              obtain ⟨v4, EV4⟩ : ∃ v, Hid (get4 bs 4 = v) := ⟨_, rfl⟩
              obtain ⟨v8, EV8⟩ : ∃ v, Hid (get4 bs 8 = v) := ⟨_, rfl⟩
              obtain ⟨v14, EV14⟩ : ∃ v, Hid (get2 bs 14 = v) := ⟨_, rfl⟩
              obtain ⟨v18, EV18⟩ : ∃ v, Hid (get2 bs 18 = v) := ⟨_, rfl⟩
              have i13 : (13 : Int) < (n : Int) := by omega
              have i2 : (2 : Int) ≤ (n : Int) := by omega
              have i4 : (4 : Int) ≤ (n : Int) := by omega
              have i8 : (8 : Int) ≤ (n : Int) := by omega
              have i14 : (14 : Int) ≤ (n : Int) := by omega
              have i18 : (18 : Int) ≤ (n : Int) := by omega
              have i0 : (0 : Int) ≤ (sz : Int) := by omega
              have m2 : ¬ c = 2 := by omega
              have m4 : ¬ c = 4 := by omega
              have m8 : ¬ c = 8 := by omega
              have m14 : ¬ c = 14 := by omega
              have m18 : ¬ c = 18 := by omega
              go_wp2_with fail
              go_region_held3 (fun w' => w'.cell? ⟨b, off + 13, none⟩ = some (.int .u8 (x13.toNat : Int)))
                (first
                  | (with_reducible assumption)
                  | (with_reducible exact cell_drew0 c13)
                  | (with_reducible exact cell_aldrew c13)
                  | (with_reducible refine cell_alloc_old ?_; with_reducible assumption)
                  | ((iterate 9 (with_reducible refine cell_set_far ?_ nb0)); with_reducible assumption))
                (first
                  | (go_at_call 35
                     first
                     | ((with_reducible refine (get16_n (off := off) 0 off n c _ (by first | (with_reducible exact RS0.bs hP HSW.out) | (with_reducible exact RS0.bs (RS0.al hP) HSW.out) | (with_reducible exact RS0.bs (RS0.dw hP) HSW.out) | (with_reducible exact RS0.bs (RS0.aldw hP) HSW.out)) rfl (by rw [HN.out]; omega) (by omega)).mono ?_); rw [EV0.out]; rintro e wn ⟨rfl, hd⟩)
                     | ((with_reducible refine (get16_n (off := off) 2 (off + 2) (n - 2) (c - 2) _ (by first | (with_reducible exact RS0.bs hP HSW.out) | (with_reducible exact RS0.bs (RS0.al hP) HSW.out) | (with_reducible exact RS0.bs (RS0.dw hP) HSW.out) | (with_reducible exact RS0.bs (RS0.aldw hP) HSW.out)) rfl (by rw [HN.out]; omega) (by omega)).mono ?_); rw [EV2.out]; rintro e wn ⟨rfl, hd⟩)
                     | ((with_reducible refine (get16_n (off := off) 14 (off + 14) (n - 14) (c - 14) _ (by first | (with_reducible exact RS0.bs hP HSW.out) | (with_reducible exact RS0.bs (RS0.al hP) HSW.out) | (with_reducible exact RS0.bs (RS0.dw hP) HSW.out) | (with_reducible exact RS0.bs (RS0.aldw hP) HSW.out)) rfl (by rw [HN.out]; omega) (by omega)).mono ?_); rw [EV14.out]; rintro e wn ⟨rfl, hd⟩)
                     | ((with_reducible refine (get16_n (off := off) 18 (off + 18) (n - 18) (c - 18) _ (by first | (with_reducible exact RS0.bs hP HSW.out) | (with_reducible exact RS0.bs (RS0.al hP) HSW.out) | (with_reducible exact RS0.bs (RS0.dw hP) HSW.out) | (with_reducible exact RS0.bs (RS0.aldw hP) HSW.out)) rfl (by rw [HN.out]; omega) (by omega)).mono ?_); rw [EV18.out]; rintro e wn ⟨rfl, hd⟩)
                     first | (with_reducible have hE := ee_d hE hd) | (with_reducible have hE := ee_0 hP hd) | (with_reducible have hE := ee_1 hP hd) | skip
                     first | (with_reducible have hP := RS0.dn hP hd) | (with_reducible have hP := RS0.d1 hd hP) | (with_reducible have hP := RS0.d2 hd hP) | (with_reducible have hP := RS0.d3 hd hP)
                     have hC := RS0.cell hP HCW.out)
                  | (go_at_call 36
                     first
                     | ((with_reducible refine (get32_n (off := off) 4 (off + 4) (n - 4) (c - 4) _ (by first | (with_reducible exact RS0.bs hP HSW.out) | (with_reducible exact RS0.bs (RS0.al hP) HSW.out) | (with_reducible exact RS0.bs (RS0.dw hP) HSW.out) | (with_reducible exact RS0.bs (RS0.aldw hP) HSW.out)) rfl (by rw [HN.out]; omega) (by omega) (by omega)).mono ?_); rw [EV4.out]; rintro e wn ⟨rfl, hd⟩)
                     | ((with_reducible refine (get32_n (off := off) 8 (off + 8) (n - 8) (c - 8) _ (by first | (with_reducible exact RS0.bs hP HSW.out) | (with_reducible exact RS0.bs (RS0.al hP) HSW.out) | (with_reducible exact RS0.bs (RS0.dw hP) HSW.out) | (with_reducible exact RS0.bs (RS0.aldw hP) HSW.out)) rfl (by rw [HN.out]; omega) (by omega) (by omega)).mono ?_); rw [EV8.out]; rintro e wn ⟨rfl, hd⟩)
                     first | (with_reducible have hE := ee_d hE hd) | (with_reducible have hE := ee_0 hP hd) | (with_reducible have hE := ee_1 hP hd) | skip
                     first | (with_reducible have hP := RS0.dn hP hd) | (with_reducible have hP := RS0.d1 hd hP) | (with_reducible have hP := RS0.d2 hd hP) | (with_reducible have hP := RS0.d3 hd hP)
                     have hC := RS0.cell hP HCW.out)
                  | (refine step_appn _ (by rfl) _ _ (by rfl) (w.heap.size + 1) _ 0 [] 0 rfl (by rfl) ?own ZA (c - sz) (bs.drop sz) (n - sz) HLD.out (by rfl) ?src (by rw [HLD.out]; simp; omega) ?bas ?_
                     case own => first | (with_reducible exact ee_own hE) | (with_reducible exact ee_own (ee_2 hP))
                     case src => first | (with_reducible exact RS0.sl hP HZA.out) | (with_reducible exact RS0.sl (RS0.al hP) HZA.out)
                     case bas => first | (with_reducible exact RS0.lt hP) | (with_reducible exact RS0.lt (RS0.al hP))
                     intro A2 c2 w5 hown hgrow
                     first | (with_reducible have hP := RS0.grown hP hE hgrow) | (with_reducible have hP := RS0.grown (RS0.al hP) (ee_2 hP) hgrow)
                     have hC := RS0.cell hP HCW.out
                     have hbk := Lib.hid hP.2
                     obtain ⟨x0, x1, x2, x3, x4, x5, x6, x7, x8⟩ := hbk.out.cells9
                     obtain ⟨y0, y1, y2, y3, y4, y5, y6, y7, y8⟩ := hbk.out.frees9))
              all_goals
                have st := hbk.out.store9 (.int .i64 (v0 : Int)) (.int .i64 (v2 : Int)) (.int .u32 (v4 : Int)) (.int .u32 (v8 : Int)) (.int .i64 (z63 : Int)) (.int .i64 (v14 : Int)) (.int .i64 (v18 : Int)) (.int .i64 (m : Int)) (.slice A2 (n - sz) c2)
                have HO := Lib.hid ((hown.grown hbk.out (by decide) st.2).sl)
                have HF := Lib.hid (below_grown hP.1 st.2 (Nat.le_refl _) (Nat.le_refl _))
                have HK := Lib.hid st.1
                clear st hown hgrow hP hbk hC x0 x1 x2 x3 x4 x5 x6 x7 x8 y0 y1 y2 y3 y4 y5 y6 y7 y8
                generalize World.setCell _ _ (Value.slice A2 (n - sz) c2) = w6 at HK HO HF ⊢
                obtain ⟨d0, d1, d2, d3, d4, d5, d6, d7, d8⟩ := HK.out.cells9
                go_wp2_with fail
                simp only [Exit.jump]
                exact bodyPost_ret (v := .tuple #[.agg #[.int .i64 (v0 : Int), .int .i64 (v2 : Int), .int .u32 (v4 : Int), .int .u32 (v8 : Int), .int .i64 (z63 : Int), .int .i64 (v14 : Int), .int .i64 (v18 : Int), .int .i64 (m : Int), .slice A2 (n - sz) c2], .int .i64 0]) (by simp [results, Try.results14, go_sem, d0, d1, d2, d3, d4, d5, d6, d7, d8]) rfl (sgot_val HOK.out HGR.out HSZ.out HLD.out EV0.out EV2.out EV4.out EV8.out E13.out EZ63.out EV14.out EV18.out (by exact HO.out) HF.out)
          · have NO : Hid (readS f t bs = none) := readS_bad (fun h => htt (by rw [← ET.out]; exact h.2.2.2))
            have hne : ((tt : Int) != 65535) = true := by simp; omega
            go_wp2_with fail
            refine TA.out.mono ?_
            rintro e w2 ⟨rfl, hb2⟩
            have HX2 := Lib.hid (HX.out.below hb2 HX.out.lt)
            have HB2 := Lib.hid (HB.out.trans (hb2.mono HB.out.size))
            clear hb2 HX HB HS TA
            go_wp2_with fail
            go_step3
            exact ⟨rfl, NO.out, HX2.out, HB2.out, _, _, _, _, _, _, _, _, _, _, _, _, _, _, _, _, _, _, _, _, _, _, _, _, _, _, _, _, _, _, _, _, _, _, _, _, _, _, _, _, _, _, _, _, _, _, _, _, _, _, _, _, _, _, _, _, _, _, _, _, _, _, _, _, _, _, _, _, _, _, _, _, _, rfl⟩
end Go.Proofs.Ytpnfdnnfhmecjaa
