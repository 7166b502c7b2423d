/-
  The walk of the law IcmpQuiet.
-/
import Derived.Test.YtnphhikbdffmpaaIcmp14
namespace Go.Proofs.Ytnphhikbdffmpaa
open Go.RowKit
set_option linter.unusedVariables false

theorem errR_nil : errR [] = 90 := by decide
theorem ans_none (me at_ kind : Int) (mo : Bool) (t : Int) : ¬ ansOk me at_ kind mo t [] := fun h => by have := h.2.1; rw [errR_nil] at this; omega
theorem ans_kind (me at_ kind : Int) (mo : Bool) (t k c r : Int) (d : List UInt8) (h0 : 0 ≤ k) (h1 : k ≤ 255) (h8 : k ≠ 8) : ¬ ansOk me at_ kind mo t (msg k c r d) := fun h => by
  have := h.2.2.1
  rw [kindR_msg k c r d h0 h1] at this
  exact h8 this
/-- Nobody complains about an answer, or a complaint. -/
theorem cpl_kind (me id f k c r : Int) (d : List UInt8) (i0 : 0 ≤ id) (i1 : id ≤ 65535) (h0 : 0 ≤ k) (h1 : k ≤ 255) (h8 : k ≠ 8) (hd : d.length ≤ 1473) : cplErr me 1 id 0 64 1 f me (msg k c r d) = 5 := by
  refine cpl5 (by omega) (by omega) ?_ ?_
  · rw [errIp, if_pos ⟨⟨by omega, by omega⟩, ⟨i0, i1⟩, ⟨by omega, by omega⟩, ⟨by omega, by omega⟩⟩, if_neg (by rw [msg_length]; omega)]
  · have : (kindR (msg k c r d) != 8) = true := by rw [kindR_msg k c r d h0 h1]; simpa using h8
    simp [quietB, this]
theorem errIp_id {id at_ life kind : Int} {n : Nat} (h : errIp id at_ life kind n = 0) : 0 ≤ id ∧ id ≤ 65535 := by
  unfold errIp at h
  by_cases hr : rightP id at_ life kind
  · exact hr.2.1
  · rw [if_neg hr] at h; omega
theorem cplErr0 {me code id at_ life kind f t : Int} {bs : List UInt8} (h : cplErr me code id at_ life kind f t bs = 0) : (0 ≤ id ∧ id ≤ 65535) ∧ 0 ≤ code ∧ code ≤ 15 := by
  unfold cplErr at h
  by_cases h1 : code < 0 ∨ 15 < code ∨ errIp id at_ life kind bs.length ≠ 0
  · rw [if_pos h1] at h; omega
  · refine ⟨errIp_id (by omega : errIp id at_ life kind bs.length = 0), by omega, by omega⟩

theorem Blk.far9 {w : World} {g g' : Nat} {t : TypeId} {cs : Array Value} (h : Blk w g t cs) (hne : g ≠ g') (v0 v1 v2 v3 v4 v5 v6 v7 v8 : Value) : Blk (((((((((w.setCell ⟨g', 0, none⟩ v0).setCell ⟨g', 1, none⟩ v1).setCell ⟨g', 2, none⟩ v2).setCell ⟨g', 3, none⟩ v3).setCell ⟨g', 4, none⟩ v4).setCell ⟨g', 5, none⟩ v5).setCell ⟨g', 6, none⟩ v6).setCell ⟨g', 7, none⟩ v7).setCell ⟨g', 8, none⟩ v8) g t cs :=
  (((((((((h.far (p := ⟨g', 0, none⟩) hne v0).far (p := ⟨g', 1, none⟩) hne v1).far (p := ⟨g', 2, none⟩) hne v2).far (p := ⟨g', 3, none⟩) hne v3).far (p := ⟨g', 4, none⟩) hne v4).far (p := ⟨g', 5, none⟩) hne v5).far (p := ⟨g', 6, none⟩) hne v6).far (p := ⟨g', 7, none⟩) hne v7).far (p := ⟨g', 8, none⟩) hne v8)
/-- Complain, with names for what it says. -/
theorem complain_v (me code id at_ life kind : Int) (wh mo : Bool) (f t : Int) (D : Option Addr) (bs : List UInt8) (n c : Nat) (w : World) (hn : bs.length = n) (hs : Sl w D c bs) (hl : bs.length ≤ 60000) (f0 : 0 ≤ f) (f1 : f < 4294967296) (t0 : 0 ≤ t) (t1 : t < 4294967296)
    {zE v0 v2 v3 v6 v7 : Int} {out : List UInt8} {ol : Nat} (hz : cplErr me code id at_ life kind f t bs = zE) (h0 : (if zE = 0 then id else 0) = v0) (h2 : (if zE = 0 then 64 else 0) = v2) (h3 : (if zE = 0 then 1 else 0) = v3) (h6 : (if zE = 0 then me else 0) = v6) (h7 : (if zE = 0 then f else 0) = v7) (ho : cplOut me code id at_ life kind wh mo f t bs = out) (hol : out.length = ol) :
    Calls Try.prog 20 #[.int .u32 me, .int .i64 code, .agg (packet id at_ life kind wh mo f t D n c)] w fun e w' => ∃ X x, e = .returned (.tuple #[.agg (packet v0 0 v2 v3 false false v6 v7 X ol x), .int .i64 zE]) ∧ Own w' w.heap.size X x out ∧ Below w.heap.size w w' := by
  refine (complain_any me code id at_ life kind wh mo f t D bs n c w hn hs hl f0 f1 t0 t1).mono ?_
  rintro e w' ⟨X, x, he, ho', hb⟩
  subst ho hol h0 h2 h3 h6 h7 hz
  exact ⟨X, x, he, ho', hb⟩

/-- An answer, and a packet, side by side. -/
structure QS (w0 : World) (gp gq : Nat) (P Q : Array Value) (X Y : Option Addr) (x y : Nat) (xs ys : List UInt8) (w : World) : Prop where
  p : Blk w gp 41 P
  q : Blk w gq 41 Q
  hx : Own w w0.heap.size X x xs
  hy : Own w w0.heap.size Y y ys
  bel : Below w0.heap.size w0 w
section
variable {w0 w w' : World} {gp gq : Nat} {P Q : Array Value} {X Y : Option Addr} {x y : Nat} {xs ys : List UInt8}
theorem QS.below (h : QS w0 gp gq P Q X Y x y xs ys w) (hb : Below w.heap.size w w') : QS w0 gp gq P Q X Y x y xs ys w' :=
  ⟨h.p.below hb h.p.lt, h.q.below hb h.q.lt, h.hx.keep hb, h.hy.keep hb, h.bel.trans (hb.mono h.bel.size)⟩
theorem QS.drew (h : QS w0 gp gq P Q X Y x y xs ys w) : QS w0 gp gq P Q X Y x y xs ys w.drew := h.below (Drawn.below ⟨1, rfl⟩ _)
end

theorem qs_alloc {w0 w : World} {gp gq : Nat} {P Q V : Array Value} {X Y Z : Option Addr} {x y z : Nat} {xs ys zs : List UInt8} (h : QS w0 gp gq P Q X Y x y xs ys w) (ho : Own w w0.heap.size Z z zs) : QS w0 gp w.heap.size P V X Z x z xs zs (w.alloc (.cells V 41)) :=
  have hb := (Below.refl w.heap.size w).alloc (Nat.le_refl _) (.cells V 41)
  ⟨blk_old h.p _, blk_new _ _ _, h.hx.keep hb, ho.keep hb, h.bel.trans (hb.mono h.bel.size)⟩
theorem qs_store {w0 w w' : World} {gp gq gc : Nat} {P Q V C : Array Value} {X Y Z : Option Addr} {x y z : Nat} {xs ys zs : List UInt8} (h : QS w0 gp gq P Q X Y x y xs ys w) (ho : Own w w0.heap.size Z z zs) (hc : Blk w gc 41 C) (hv : Blk w' gc 41 V) (hg : w.grownBy w' (some gc)) (hne : gp ≠ gc) (hB : w0.heap.size ≤ gc) : QS w0 gp gc P V X Z x z xs zs w' :=
  ⟨h.p.grown hg hne, hv, h.hx.grown hc (by decide) hg, ho.grown hc (by decide) hg, below_grown h.bel hg (Nat.le_refl _) hB⟩

set_option maxHeartbeats 16000000 in
set_option maxRecDepth 100000 in
theorem icmpQuiet_walk (me fr : Int) (mk mc mr : Int) (mD : Option Addr) (mbs : List UInt8) (md : Nat) (code : Int) (id at_ life kind : Int) (wh mo : Bool) (f t : Int) (D : Option Addr) (bs : List UInt8) (d : Nat) (w : World)
    (me0 : 0 ≤ me) (me1 : me < 4294967296) (fr0 : 0 ≤ fr) (fr1 : fr < 4294967296) (f0 : 0 ≤ f) (f1 : f < 4294967296) (t0 : 0 ≤ t) (t1 : t < 4294967296) (r0 : 0 ≤ mr) (r1 : mr < 4294967296) (hs : Sl w D d bs) (hm : Sl w mD md mbs) :
    Calls Try.prog 6 #[.int .u32 me, .int .u32 fr, .agg #[.int .i64 mk, .int .i64 mc, .int .u32 mr, .slice mD mbs.length md], .int .i64 code, .agg (packet id at_ life kind wh mo f t D bs.length d)] w fun e w' => e = .returned (.bool true) ∧ Below w.heap.size w w' := by
  have hb : Below w.heap.size w ((w.alloc (.cells #[.int .i64 mk, .int .i64 mc, .int .u32 mr, .slice mD mbs.length md] 25)).alloc (.cells (packet id at_ life kind wh mo f t D bs.length d) 41)) := ((Below.refl _ _).alloc (Nat.le_refl _) _).alloc (by simp) _
  have hbm := blk_old (blk_new w 25 #[.int .i64 mk, .int .i64 mc, .int .u32 mr, .slice mD mbs.length md]) (.cells (packet id at_ life kind wh mo f t D bs.length d) 41)
  have hbq := blk_new (w.alloc (.cells #[.int .i64 mk, .int .i64 mc, .int .u32 mr, .slice mD mbs.length md] 25)) 41 (packet id at_ life kind wh mo f t D bs.length d)
  have hG : (w.alloc (.cells #[.int .i64 mk, .int .i64 mc, .int .u32 mr, .slice mD mbs.length md] 25)).heap.size = w.heap.size + 1 := by simp
  rw [hG] at hbq
  clear hG
  have HS0 := Lib.hid hs
  have HM0 := Lib.hid hm
  have lF := fewL_le bs
  have lM := fewL_le mbs
  clear hs hm
  go_enter Try.func6, Try.ntmps6
  go_wp2_with fail
  generalize (w.alloc (.cells #[.int .i64 mk, .int .i64 mc, .int .u32 mr, .slice mD mbs.length md] 25)).alloc (.cells (packet id at_ life kind wh mo f t D bs.length d) 41) = w1 at *
  refine (works_any _).mono ?_
  rintro e w2 ⟨rfl, hb2⟩
  replace hbm := hbm.below hb2 hbm.lt
  replace hbq := hbq.below hb2 hbq.lt
  replace hb := hb.trans (hb2.mono hb.size)
  clear hb2
  obtain ⟨m0, m1, m2, m3⟩ := hbm.cells4
  go_wp2_with fail
  refine (few_any mD mbs _ md _ rfl (HM0.out.below hb)).mono ?_
  rintro e w3 ⟨X3, y3, rfl, ho3, hb2⟩
  replace hbm := hbm.below hb2 hbm.lt
  replace hbq := hbq.below hb2 hbq.lt
  replace ho3 := ho3.base hb.size
  replace hb := hb.trans (hb2.mono hb.size)
  clear hb2 m0 m1 m2 m3
  generalize fewL mbs = F at *
  obtain ⟨n3, E3⟩ : ∃ z, Hid (F.length = z) := ⟨_, rfl⟩
  rw [E3.out]
  obtain ⟨m0, m1, m2, m3⟩ := hbm.cells4
  have mf := hbm.free 3
  have hbm2 : Blk (w3.setCell ⟨w.heap.size, 3, none⟩ (.slice X3 n3 y3)) w.heap.size 25 #[.int .i64 mk, .int .i64 mc, .int .u32 mr, .slice X3 n3 y3] := hbm.set 3 _
  have hbq2 := hbq.far (p := ⟨w.heap.size, 3, none⟩) (by simp) (.slice X3 n3 y3)
  have ho3' := ho3.past hbm (by decide) 3 (.slice X3 n3 y3)
  have hb' := hb.setCell (p := ⟨w.heap.size, 3, none⟩) (Nat.le_refl _) (.slice X3 n3 y3)
  clear hbm hbq ho3 hb
  go_wp2_with fail
  generalize w3.setCell ⟨w.heap.size, 3, none⟩ (.slice X3 n3 y3) = w4 at *
  clear m0 m1 m2 m3 mf
  refine (echo_any fr me mk mc mr X3 F n3 y3 _ E3.out r0 r1 ho3'.sl).mono ?_
  rintro e w5 ⟨X5, y5, rfl, ho5, hb2⟩
  obtain ⟨n5, E5⟩ : ∃ z, Hid ((outB 8 0 mr F).length = z) := ⟨_, rfl⟩
  rw [E5.out]
  have hba := (Below.refl w5.heap.size w5).alloc (Nat.le_refl _) (.cells (packet 7 0 9 1 false false fr me X5 n5 y5) 41)
  have hbb := hb2.trans (hba.mono hb2.size)
  replace hbm2 := hbm2.below hbb hbm2.lt
  replace hbq2 := hbq2.below hbb hbq2.lt
  replace ho3' := ho3'.keep hbb
  replace ho5 := (ho5.base hb'.size).keep hba
  replace hb' := hb'.trans (hbb.mono hb'.size)
  clear hb2 hba hbb
  go_wp2_with fail
  generalize w5.alloc (.cells (packet 7 0 9 1 false false fr me X5 n5 y5) 41) = w6 at *
  have l5 : (outB 8 0 mr F).length ≤ 1481 := by
    unfold outB
    split
    · rw [msg_length]; omega
    · simp
  refine (answer_any me 7 0 9 1 false false fr me X5 (outB 8 0 mr F) n5 y5 _ E5.out ho5.sl (by omega)).mono ?_
  by_cases hl : 1472 < F.length
  · have eo : outB 8 0 mr F = [] := by rw [outB, if_neg (by rw [errB, if_pos ⟨⟨by omega, by omega⟩, ⟨by omega, by omega⟩⟩, if_pos (by omega)]; omega)]
    rw [eo, decide_eq_false (ans_none me 0 1 false me)]
    rintro e w7 ⟨X7, y7, rfl, ho7, hb2⟩
    simp only [Bool.false_eq_true, if_false, List.length_nil] at ho7 ⊢
    have hba := (Below.refl w7.heap.size w7).alloc (Nat.le_refl _) (.cells (packet 0 0 0 0 false false 0 0 X7 0 y7) 41)
    have hbb := hb2.trans (hba.mono hb2.size)
    replace hbm2 := hbm2.below hbb hbm2.lt
    replace hb' := hb'.trans (hbb.mono hb'.size)
    have hn3 : (1472 : Int) < (n3 : Int) := by rw [← E3.out]; omega
    obtain ⟨m0, m1, m2, m3⟩ := hbm2.cells4
    clear hb2 hba hbb ho7
    go_wp2_with fail
    go_ret
    exact ⟨rfl, hb'⟩
  · have eo : outB 8 0 mr F = msg 8 0 mr F := outB_echo mr F (by omega)
    rw [eo, decide_eq_true (ans_echo me mr F (by omega))]
    rintro e w7 ⟨X7, y7, rfl, ho7, hb2⟩
    simp only [if_true] at ho7 ⊢
    rw [restR_msg _ _ _ _ r0 r1, dataR_msg] at ho7 ⊢
    obtain ⟨n7, E7⟩ : ∃ z, Hid ((msg 0 0 mr F).length = z) := ⟨_, rfl⟩
    rw [E7.out]
    have gq1 : w.heap.size + 1 < w7.heap.size := Nat.lt_of_lt_of_le hbq2.lt hb2.size
    have hba := (Below.refl w7.heap.size w7).alloc (Nat.le_refl _) (.cells (packet 7 0 64 1 false false me fr X7 n7 y7) 41)
    have hbb := hb2.trans (hba.mono hb2.size)
    have hp7 := blk_new w7 41 (packet 7 0 64 1 false false me fr X7 n7 y7)
    replace hbm2 := hbm2.below hbb hbm2.lt
    replace hbq2 := hbq2.below hbb hbq2.lt
    replace ho3' := ho3'.keep hbb
    replace ho7 := (ho7.base hb'.size).keep hba
    replace hb' := hb'.trans (hbb.mono hb'.size)
    have hn3 : (n3 : Int) ≤ 1472 := by rw [← E3.out]; omega
    obtain ⟨m0, m1, m2, m3⟩ := hbm2.cells4
    clear hb2 hba hbb ho5 E5 eo l5
    go_wp2_with fail
    generalize w7.alloc (.cells (packet 7 0 64 1 false false me fr X7 n7 y7) 41) = w8 at *
    have g71 : w7.heap.size ≠ w.heap.size + 1 := by omega
    generalize w7.heap.size = g7 at *
    clear m0 m1 m2 m3
    have l7 : (msg 0 0 mr F).length ≤ 1481 := by rw [msg_length]; omega
    refine (read_n X7 (msg 0 0 mr F) n7 y7 _ E7.out ho7.sl (by omega)).mono ?_
    rintro e w9 ⟨X9, y9, rfl, ho9, hb2⟩
    rw [kindR_msg _ _ _ _ (by omega) (by omega), codeR_msg _ _ _ _ (by omega) (by omega), restR_msg _ _ _ _ r0 r1, errR_msg, dataR_msg, E3.out]
    rw [dataR_msg] at ho9
    have hba := (Below.refl w9.heap.size w9).alloc (Nat.le_refl _) (.cells #[.int .i64 0, .int .i64 0, .int .u32 mr, .slice X9 n3 y9] 25)
    have hbb := hb2.trans (hba.mono hb2.size)
    have hx9 := blk_new w9 25 #[.int .i64 0, .int .i64 0, .int .u32 mr, .slice X9 n3 y9]
    replace hbm2 := hbm2.below hbb hbm2.lt
    replace hbq2 := hbq2.below hbb hbq2.lt
    replace hp7 := hp7.below hbb hp7.lt
    replace ho3' := ho3'.keep hbb
    replace ho7 := ho7.keep hbb
    replace ho9 := (ho9.base hb'.size).keep hba
    replace hb' := hb'.trans (hbb.mono hb'.size)
    clear hb2 hba hbb
    obtain ⟨m0, m1, m2, m3⟩ := hbm2.cells4
    obtain ⟨p0, p1, p2, p3, p4, p5, p6, p7, p8⟩ := hp7.cells9
    obtain ⟨q0, q1, q2, q3⟩ := hx9.cells4
    go_wp2_with fail
    generalize w9.alloc (.cells #[.int .i64 0, .int .i64 0, .int .u32 mr, .slice X9 n3 y9] 25) = w10 at *
    generalize w9.heap.size = g9 at *
    refine (same_n X9 F n3 y9 X3 F n3 y3 _ E3.out E3.out ho9.bs ho3'.bs).mono ?_
    rintro e w11 ⟨rfl, rfl⟩
    rw [decide_eq_true rfl]
    obtain ⟨s0, s1, s2, s3, s4, s5, s6, s7, s8⟩ := hbq2.cells9
    go_wp2_with fail
    refine (few_any D bs _ d _ rfl (HS0.out.below hb')).mono ?_
    rintro e w12 ⟨X12, y12, rfl, ho12, hb2⟩
    replace hbq2 := hbq2.below hb2 hbq2.lt
    replace hp7 := hp7.below hb2 hp7.lt
    replace ho7 := ho7.keep hb2
    replace ho12 := ho12.base hb'.size
    replace hb' := hb'.trans (hb2.mono hb'.size)
    clear hb2 m0 m1 m2 m3 p0 p1 p2 p3 p4 p5 p6 p7 p8 q0 q1 q2 q3 s0 s1 s2 s3 s4 s5 s6 s7 s8 ho9 ho3' hbm2 hx9
    generalize fewL bs = G at *
    obtain ⟨n12, E12⟩ : ∃ z, Hid (G.length = z) := ⟨_, rfl⟩
    rw [E12.out]
    obtain ⟨s0, s1, s2, s3, s4, s5, s6, s7, s8⟩ := hbq2.cells9
    have sf := hbq2.free 8
    have hbq3 : Blk (w12.setCell ⟨w.heap.size + 1, 8, none⟩ (.slice X12 n12 y12)) (w.heap.size + 1) 41 (packet id at_ life kind wh mo f t X12 n12 y12) := hbq2.set 8 _
    have hp7' := hp7.far (p := ⟨w.heap.size + 1, 8, none⟩) g71 (.slice X12 n12 y12)
    have ho7' := ho7.past hbq2 (by decide) 8 (.slice X12 n12 y12)
    have ho12' := ho12.past hbq2 (by decide) 8 (.slice X12 n12 y12)
    have hb3 := hb'.setCell (p := ⟨w.heap.size + 1, 8, none⟩) (by simp) (.slice X12 n12 y12)
    clear hbq2 hp7 ho7 ho12 hb'
    go_wp2_with fail
    generalize w12.setCell ⟨w.heap.size + 1, 8, none⟩ (.slice X12 n12 y12) = w13 at *
    clear s0 s1 s2 s3 s4 s5 s6 s7 s8 sf
    obtain ⟨cd, ECD⟩ : ∃ z, Hid (among code 16 = z) := ⟨_, rfl⟩
    have hst : QS w g7 (w.heap.size + 1) (packet 7 0 64 1 false false me fr X7 n7 y7) (packet id at_ life kind wh mo f t X12 n12 y12) X7 X12 y7 y12 (msg 0 0 mr F) G w13 := ⟨hp7', hbq3, ho7', ho12', hb3⟩
    have hstA := (hst.below ((Below.refl _ _).alloc (Nat.le_refl _) (.cells packet0 41))).drew
    have nq : w.heap.size + 1 ≠ w13.heap.size := by have := hbq3.lt; omega
    have n7q : g7 ≠ w13.heap.size := by have := hst.p.lt; omega
    have nB : w.heap.size ≤ w13.heap.size := hst.bel.size
    have hG6 : G.length ≤ 60000 := by omega
    clear hp7' hbq3 ho7' ho12' hb3
    obtain ⟨zE, HZE⟩ : ∃ z : Int, Hid (cplErr me cd id at_ life kind f t G = z) := ⟨_, rfl⟩
    obtain ⟨v0, HV0⟩ : ∃ z, Hid ((if zE = 0 then id else 0) = z) := ⟨_, rfl⟩
    obtain ⟨v2, HV2⟩ : ∃ z : Int, Hid ((if zE = 0 then 64 else 0) = z) := ⟨_, rfl⟩
    obtain ⟨v3, HV3⟩ : ∃ z : Int, Hid ((if zE = 0 then 1 else 0) = z) := ⟨_, rfl⟩
    obtain ⟨v6, HV6⟩ : ∃ z, Hid ((if zE = 0 then me else 0) = z) := ⟨_, rfl⟩
    obtain ⟨v7, HV7⟩ : ∃ z, Hid ((if zE = 0 then f else 0) = z) := ⟨_, rfl⟩
    obtain ⟨out, HOUT⟩ : ∃ z, Hid (cplOut me cd id at_ life kind wh mo f t G = z) := ⟨_, rfl⟩
    obtain ⟨ol, HOL⟩ : ∃ z, Hid (out.length = z) := ⟨_, rfl⟩
    obtain ⟨b0, b1, b2, b3, b4, b5, b6, b7, b8⟩ := hst.drew.q.cells9
    obtain ⟨c0, c1, c2, c3, c4, c5, c6, c7, c8⟩ := hstA.q.cells9
    go_region_held3 (fun w' => w'.cell? ⟨w.heap.size + 1, 0, none⟩ = some (.int .i64 id) ∧ w'.cell? ⟨w.heap.size + 1, 1, none⟩ = some (.int .i64 at_) ∧ w'.cell? ⟨w.heap.size + 1, 2, none⟩ = some (.int .i64 life) ∧ w'.cell? ⟨w.heap.size + 1, 3, none⟩ = some (.int .i64 kind) ∧ w'.cell? ⟨w.heap.size + 1, 4, none⟩ = some (.bool wh) ∧ w'.cell? ⟨w.heap.size + 1, 5, none⟩ = some (.bool mo) ∧ w'.cell? ⟨w.heap.size + 1, 6, none⟩ = some (.int .u32 f) ∧ w'.cell? ⟨w.heap.size + 1, 7, none⟩ = some (.int .u32 t) ∧ w'.cell? ⟨w.heap.size + 1, 8, none⟩ = some (.slice X12 n12 y12))
      ((refine ⟨?_, ?_, ?_, ?_, ?_, ?_, ?_, ?_, ?_⟩ <;> first
        | (with_reducible assumption)
        | ((with_reducible refine cell_alloc_old ?_); with_reducible assumption)
        | ((with_reducible refine cell_set_far ?_ nq); (with_reducible refine cell_set_far ?_ nq); (with_reducible refine cell_set_far ?_ nq); (with_reducible refine cell_set_far ?_ nq); (with_reducible refine cell_set_far ?_ nq); (with_reducible refine cell_set_far ?_ nq); (with_reducible refine cell_set_far ?_ nq); (with_reducible refine cell_set_far ?_ nq); (with_reducible refine cell_set_far ?_ nq); with_reducible assumption)))
      (first
        | (go_at_call 22
           refine (among_any _ _ _ (by omega) (by omega)).mono ?_
           rw [ECD.out]
           rintro e w14 ⟨rfl, rfl⟩)
        | (go_at_call 20
           (with_reducible refine (complain_v me cd id at_ life kind wh mo f t X12 G n12 y12 w13.drew E12.out hst.drew.hy.sl hG6 f0 f1 t0 t1 HZE.out HV0.out HV2.out HV3.out HV6.out HV7.out HOUT.out HOL.out).mono ?_)
           rintro e w15 ⟨X15, y15, rfl, ho15, hb15⟩
           have hst2 := hst.drew.below hb15
           obtain ⟨e0, e1, e2, e3, e4, e5, e6, e7, e8⟩ := hst2.q.cells9
           replace ho15 := ho15.base hst.drew.bel.size
           clear hb15)
        | (go_at_call 20
           (with_reducible refine (complain_v me cd id at_ life kind wh mo f t X12 G n12 y12 (w13.alloc (.cells packet0 41)).drew E12.out hstA.hy.sl hG6 f0 f1 t0 t1 HZE.out HV0.out HV2.out HV3.out HV6.out HV7.out HOUT.out HOL.out).mono ?_)
           rintro e w15 ⟨X15, y15, rfl, ho15, hb15⟩
           have hst2 := hstA.below hb15
           obtain ⟨e0, e1, e2, e3, e4, e5, e6, e7, e8⟩ := hst2.q.cells9
           replace ho15 := ho15.base hstA.bel.size
           have hcb : Blk w15 w13.heap.size 41 packet0 := (blk_top rfl : Blk (w13.alloc (.cells packet0 41)).drew w13.heap.size 41 packet0).below hb15 (by simp)
           obtain ⟨u0, u1, u2, u3, u4, u5, u6, u7, u8⟩ := hcb.cells9
           obtain ⟨k0, k1, k2, k3, k4, k5, k6, k7, k8⟩ := hcb.frees9
           clear hb15))
    all_goals
      first
        | (obtain ⟨hk, hg⟩ := hcb.store9 (.int .i64 v0) (.int .i64 0) (.int .i64 v2) (.int .i64 v3) (.bool false) (.bool false) (.int .u32 v6) (.int .u32 v7) (.slice X15 ol y15)
           have hq := qs_store hst2 ho15 hcb hk hg n7q nB
           clear hk hg hcb u0 u1 u2 u3 u4 u5 u6 u7 u8 k0 k1 k2 k3 k4 k5 k6 k7 k8
           generalize World.setCell _ _ (Value.slice X15 ol y15) = wf at hq ⊢
           obtain ⟨gc, hgc⟩ : ∃ z, w13.heap.size = z := ⟨_, rfl⟩
           rw [hgc] at hq ⊢
           replace hgc := Lib.hid hgc)
        | (have hq := qs_alloc (V := packet v0 0 v2 v3 false false v6 v7 X15 ol y15) hst2 ho15
           generalize w15.alloc _ = wf at hq ⊢
           obtain ⟨gc, hgc⟩ : ∃ z, w15.heap.size = z := ⟨_, rfl⟩
           rw [hgc] at hq ⊢
           replace hgc := Lib.hid hgc)
      clear b0 b1 b2 b3 b4 b5 b6 b7 b8 c0 c1 c2 c3 c4 c5 c6 c7 c8 e0 e1 e2 e3 e4 e5 e6 e7 e8 hst2 ho15 hst hstA
      obtain ⟨a0, a1, a2, a3, a4, a5, a6, a7, a8⟩ := hq.p.cells9
      go_wp2_with fail
      refine (answer_any fr 7 0 64 1 false false me fr X7 (msg 0 0 mr F) n7 y7 _ E7.out hq.hx.sl (by omega)).mono ?_
      rw [decide_eq_false (ans_kind fr 0 1 false fr 0 0 mr F (by omega) (by omega) (by omega))]
      rintro e w17 ⟨X17, y17, rfl, _, hb17⟩
      simp only [Bool.false_eq_true, if_false, List.length_nil]
      replace hq := (hq.below hb17).below ((Below.refl _ _).alloc (Nat.le_refl _) (.cells (packet 0 0 0 0 false false 0 0 X17 0 y17) 41))
      clear hb17 a0 a1 a2 a3 a4 a5 a6 a7 a8
      obtain ⟨a0, a1, a2, a3, a4, a5, a6, a7, a8⟩ := hq.p.cells9
      go_wp2_with fail
      generalize w17.alloc (.cells (packet 0 0 0 0 false false 0 0 X17 0 y17) 41) = w18 at *
      refine (complain_any fr 1 7 0 64 1 false false me fr X7 (msg 0 0 mr F) n7 y7 _ E7.out hq.hx.sl (by omega) me0 me1 fr0 fr1).mono ?_
      have ec1 : cplErr fr 1 7 0 64 1 me fr (msg 0 0 mr F) = 5 := cpl_kind fr 7 me 0 0 mr F (by omega) (by omega) (by omega) (by omega) (by omega) (by omega)
      rintro e w19 ⟨X19, y19, rfl, _, hb19⟩
      rw [cplOut, ec1]
      simp only [if_neg (show ¬ ((5 : Int) = 0) by omega), List.length_nil]
      replace hq := (hq.below hb19).below ((Below.refl _ _).alloc (Nat.le_refl _) (.cells (packet 0 0 0 0 false false 0 0 X19 0 y19) 41))
      clear hb19 a0 a1 a2 a3 a4 a5 a6 a7 a8 ec1
      obtain ⟨a0, a1, a2, a3, a4, a5, a6, a7, a8⟩ := hq.q.cells9
      cases hz : (zE == 0)
      · go_wp2_with fail
        go_ret
        exact ⟨rfl, hq.bel⟩
      · have hz0 : zE = 0 := by simpa using hz
        have e0 : v0 = id := by rw [← HV0.out, if_pos hz0]
        have e2 : v2 = 64 := by rw [← HV2.out, if_pos hz0]
        have e3 : v3 = 1 := by rw [← HV3.out, if_pos hz0]
        have e6 : v6 = me := by rw [← HV6.out, if_pos hz0]
        have e7 : v7 = f := by rw [← HV7.out, if_pos hz0]
        have eo : out = msg 3 cd 0 ((outIp id at_ life kind wh mo f t G).take 28) := by rw [← HOUT.out, cplOut, if_pos (by rw [HZE.out]; exact hz0)]
        have hid := cplErr0 (HZE.out.trans hz0)
        have lo : ((outIp id at_ life kind wh mo f t G).take 28).length ≤ 28 := by rw [List.length_take]; omega
        clear HV0 HV2 HV3 HV6 HV7 HOUT HZE
        subst e0 e2 e3 e6 e7 eo hz0
        generalize (outIp v0 at_ life kind wh mo v7 t G).take 28 = dd at *
        have lm : (msg 3 cd 0 dd).length ≤ 36 := by rw [msg_length]; omega
        go_wp2_with fail
        generalize w19.alloc (.cells (packet 0 0 0 0 false false 0 0 X19 0 y19) 41) = w20 at *
        refine (answer_any v7 v0 0 64 1 false false v6 v7 X15 (msg 3 cd 0 dd) ol y15 _ HOL.out hq.hy.sl (by omega)).mono ?_
        rw [decide_eq_false (ans_kind v7 0 1 false v7 3 cd 0 dd (by omega) (by omega) (by omega))]
        rintro e w21 ⟨X21, y21, rfl, _, hb21⟩
        simp only [Bool.false_eq_true, if_false, List.length_nil]
        replace hq := (hq.below hb21).below ((Below.refl _ _).alloc (Nat.le_refl _) (.cells (packet 0 0 0 0 false false 0 0 X21 0 y21) 41))
        clear hb21 a0 a1 a2 a3 a4 a5 a6 a7 a8
        obtain ⟨a0, a1, a2, a3, a4, a5, a6, a7, a8⟩ := hq.q.cells9
        go_wp2_with fail
        generalize w21.alloc (.cells (packet 0 0 0 0 false false 0 0 X21 0 y21) 41) = w22 at *
        refine (complain_any v7 1 v0 0 64 1 false false v6 v7 X15 (msg 3 cd 0 dd) ol y15 _ HOL.out hq.hy.sl (by omega) me0 me1 f0 f1).mono ?_
        have ec2 : cplErr v7 1 v0 0 64 1 v6 v7 (msg 3 cd 0 dd) = 5 := cpl_kind v7 v0 v6 3 cd 0 dd hid.1.1 hid.1.2 (by omega) (by omega) (by omega) (by omega)
        rintro e w23 ⟨X23, y23, rfl, _, hb23⟩
        rw [cplOut, ec2]
        simp only [if_neg (show ¬ ((5 : Int) = 0) by omega), List.length_nil]
        replace hq := (hq.below hb23).below ((Below.refl _ _).alloc (Nat.le_refl _) (.cells (packet 0 0 0 0 false false 0 0 X23 0 y23) 41))
        clear hb23 a0 a1 a2 a3 a4 a5 a6 a7 a8 ec2
        go_wp2_with fail
        go_ret
        exact ⟨rfl, hq.bel⟩
end Go.Proofs.Ytnphhikbdffmpaa
