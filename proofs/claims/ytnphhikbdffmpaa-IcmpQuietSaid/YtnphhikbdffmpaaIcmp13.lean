/-
  The walks of icmp.Complain and of the reference's Complain.
-/
import Derived.Test.YtnphhikbdffmpaaIcmp12
namespace Go.Proofs.Ytnphhikbdffmpaa
open Go.RowKit
set_option linter.unusedVariables false

/-- What is complained, and how. -/
def cplErr (me code id at_ life kind f t : Int) (bs : List UInt8) : Int := if code < 0 ∨ 15 < code ∨ errIp id at_ life kind bs.length ≠ 0 then 2 else if quietB me at_ kind f t bs then 5 else 0
def cplOut (me code id at_ life kind : Int) (wh mo : Bool) (f t : Int) (bs : List UInt8) : List UInt8 := if cplErr me code id at_ life kind f t bs = 0 then msg 3 code 0 ((outIp id at_ life kind wh mo f t bs).take 28) else []
def Complained (me code id at_ life kind : Int) (wh mo : Bool) (f t : Int) (bs : List UInt8) (w : World) (e : Ending) (w' : World) : Prop :=
  ∃ X x, e = .returned (.tuple #[.agg (packet (if cplErr me code id at_ life kind f t bs = 0 then id else 0) 0 (if cplErr me code id at_ life kind f t bs = 0 then 64 else 0) (if cplErr me code id at_ life kind f t bs = 0 then 1 else 0) false false (if cplErr me code id at_ life kind f t bs = 0 then me else 0) (if cplErr me code id at_ life kind f t bs = 0 then f else 0) X (cplOut me code id at_ life kind wh mo f t bs).length x), .int .i64 (cplErr me code id at_ life kind f t bs)]) ∧
    Own w' w.heap.size X x (cplOut me code id at_ life kind wh mo f t bs) ∧ Below w.heap.size w w'
section
variable {me code id at_ life kind : Int} {wh mo : Bool} {f t : Int} {bs : List UInt8} {w w' : World} {e : Ending}
theorem cpl_no {z : Int} (h : cplErr me code id at_ life kind f t bs = z) (hz : z ≠ 0) (he : e = .returned (.tuple #[.agg packet0, .int .i64 z])) (hb : Below w.heap.size w w') : Complained me code id at_ life kind wh mo f t bs w e w' := by
  have hno : ¬ cplErr me code id at_ life kind f t bs = 0 := by rw [h]; exact hz
  refine ⟨none, 0, ?_, ?_, hb⟩
  · rw [cplOut, if_neg hno, if_neg hno, if_neg hno, if_neg hno, if_neg hno, if_neg hno, h]; exact he
  · rw [cplOut, if_neg hno]; exact Own.nil _ _
theorem cpl_yes {X : Option Addr} {x : Nat} (h : cplErr me code id at_ life kind f t bs = 0) (he : e = .returned (.tuple #[.agg (packet id 0 64 1 false false me f X (msg 3 code 0 ((outIp id at_ life kind wh mo f t bs).take 28)).length x), .int .i64 0])) (ho : Own w' w.heap.size X x (msg 3 code 0 ((outIp id at_ life kind wh mo f t bs).take 28))) (hb : Below w.heap.size w w') : Complained me code id at_ life kind wh mo f t bs w e w' := by
  refine ⟨X, x, ?_, ?_, hb⟩
  · rw [cplOut, if_pos h, if_pos h, if_pos h, if_pos h, if_pos h, if_pos h, h]; exact he
  · rw [cplOut, if_pos h]; exact ho
theorem cpl2 (h : code < 0 ∨ 15 < code ∨ errIp id at_ life kind bs.length ≠ 0) : cplErr me code id at_ life kind f t bs = 2 := by rw [cplErr, if_pos h]
theorem cpl5 (h0 : ¬ code < 0) (h1 : ¬ 15 < code) (h2 : errIp id at_ life kind bs.length = 0) (h : quietB me at_ kind f t bs = true) : cplErr me code id at_ life kind f t bs = 5 := by
  rw [cplErr, if_neg (by omega), if_pos h]
theorem cpl0 (h0 : ¬ code < 0) (h1 : ¬ 15 < code) (h2 : errIp id at_ life kind bs.length = 0) (h : quietB me at_ kind f t bs = false) : cplErr me code id at_ life kind f t bs = 0 := by
  rw [cplErr, if_neg (by omega), h]; rfl
theorem errB3 (h0 : ¬ code < 0) (h1 : ¬ 15 < code) (n : Nat) (hn : n ≤ 28) : errB 3 code n = 0 := by
  rw [errB, if_pos ⟨⟨by omega, by omega⟩, ⟨by omega, by omega⟩⟩, if_neg (by omega)]
end

set_option maxHeartbeats 8000000 in
set_option maxRecDepth 100000 in
theorem complain_any (me code id at_ life kind : Int) (wh mo : Bool) (f t : Int) (D : Option Addr) (bs : List UInt8) (n c : Nat) (w : World) (hn : bs.length = n) (hs : Sl w D c bs) (hl : bs.length ≤ 60000) (f0 : 0 ≤ f) (f1 : f < 4294967296) (t0 : 0 ≤ t) (t1 : t < 4294967296) :
    Calls Try.prog 20 #[.int .u32 me, .int .i64 code, .agg (packet id at_ life kind wh mo f t D n c)] w (Complained me code id at_ life kind wh mo f t bs w) := by
  have hb1 : Below w.heap.size w ((w.alloc (.cells (packet id at_ life kind wh mo f t D n c) 41)).alloc (.cells packet0 41)) := ((Below.refl _ _).alloc (Nat.le_refl _) _).alloc (by simp) _
  have hbx := blk_old (blk_new w 41 (packet id at_ life kind wh mo f t D n c)) (.cells packet0 41)
  have hrs := blk_new (w.alloc (.cells (packet id at_ life kind wh mo f t D n c) 41)) 41 packet0
  have hG : (w.alloc (.cells (packet id at_ life kind wh mo f t D n c) 41)).heap.size = w.heap.size + 1 := by simp
  rw [hG] at hrs
  clear hG
  have HS0 := Lib.hid hs
  have HN := Lib.hid hn
  have HLB := Lib.hid hl
  clear hn hl hs
  go_enter Try.func20, Try.ntmps20
  go_wp2_with fail
  generalize (w.alloc (.cells (packet id at_ life kind wh mo f t D n c) 41)).alloc (.cells packet0 41) = w1 at *
  refine (ipbuild_n id at_ life kind wh mo f t D bs n c _ HN.out (HS0.out.below hb1) f0 f1 t0 t1).mono ?_
  rintro e w2 ⟨X, x, rfl, hsl, hb2⟩
  have HBX := Lib.hid (hbx.below hb2 hbx.lt)
  have HRS := Lib.hid (hrs.below hb2 hrs.lt)
  have HB := Lib.hid (hb1.trans (hb2.mono hb1.size))
  have HSL := Lib.hid hsl
  clear hb1 hbx hrs hb2 hsl
  obtain ⟨ol, EOL⟩ : ∃ z, Hid ((outIp id at_ life kind wh mo f t bs).length = z) := ⟨_, rfl⟩
  obtain ⟨zE, EZ⟩ : ∃ z, Hid (errIp id at_ life kind bs.length = z) := ⟨_, rfl⟩
  rw [EOL.out, EZ.out]
  obtain ⟨x0, x1, x2, x3, x4, x5, x6, x7, x8⟩ := HBX.out.cells9
  by_cases h1 : code < 0
  · obtain ⟨r0, r1, r2, r3, r4, r5, r6, r7, r8⟩ := HRS.out.cells9
    obtain ⟨q0, q1, q2, q3, q4, q5, q6, q7, q8⟩ := HRS.out.frees9
    obtain ⟨hk, hg⟩ := HRS.out.store9 (.int .i64 0) (.int .i64 0) (.int .i64 0) (.int .i64 0) (.bool false) (.bool false) (.int .u32 0) (.int .u32 0) (.slice none 0 0)
    have HKZ := Lib.hid hk
    have HBZ := Lib.hid (below_grown HB.out hg (Nat.le_refl _) (by omega))
    clear hk hg
    go_wp2_with fail
    generalize World.setCell _ _ (Value.slice none 0 0) = w9 at HKZ HBZ ⊢
    obtain ⟨d0, d1, d2, d3, d4, d5, d6, d7, d8⟩ := HKZ.out.cells9
    exact bodyPost_ret (v := .tuple #[.agg packet0, .int .i64 2]) (by simp [results, Try.results20, go_sem, d0, d1, d2, d3, d4, d5, d6, d7, d8]) rfl (cpl_no (cpl2 (.inl h1)) (by omega) rfl HBZ.out)
  by_cases h2 : 15 < code
  · obtain ⟨r0, r1, r2, r3, r4, r5, r6, r7, r8⟩ := HRS.out.cells9
    obtain ⟨q0, q1, q2, q3, q4, q5, q6, q7, q8⟩ := HRS.out.frees9
    obtain ⟨hk, hg⟩ := HRS.out.store9 (.int .i64 0) (.int .i64 0) (.int .i64 0) (.int .i64 0) (.bool false) (.bool false) (.int .u32 0) (.int .u32 0) (.slice none 0 0)
    have HKZ := Lib.hid hk
    have HBZ := Lib.hid (below_grown HB.out hg (Nat.le_refl _) (by omega))
    clear hk hg
    go_wp2_with fail
    generalize World.setCell _ _ (Value.slice none 0 0) = w9 at HKZ HBZ ⊢
    obtain ⟨d0, d1, d2, d3, d4, d5, d6, d7, d8⟩ := HKZ.out.cells9
    exact bodyPost_ret (v := .tuple #[.agg packet0, .int .i64 2]) (by simp [results, Try.results20, go_sem, d0, d1, d2, d3, d4, d5, d6, d7, d8]) rfl (cpl_no (cpl2 (.inr (.inl h2))) (by omega) rfl HBZ.out)
  by_cases h3 : zE = 0
  rotate_left
  · have h3' : (zE != 0) = true := by simpa using h3
    obtain ⟨r0, r1, r2, r3, r4, r5, r6, r7, r8⟩ := HRS.out.cells9
    obtain ⟨q0, q1, q2, q3, q4, q5, q6, q7, q8⟩ := HRS.out.frees9
    obtain ⟨hk, hg⟩ := HRS.out.store9 (.int .i64 0) (.int .i64 0) (.int .i64 0) (.int .i64 0) (.bool false) (.bool false) (.int .u32 0) (.int .u32 0) (.slice none 0 0)
    have HKZ := Lib.hid hk
    have HBZ := Lib.hid (below_grown HB.out hg (Nat.le_refl _) (by omega))
    clear hk hg
    go_wp2_with fail
    generalize World.setCell _ _ (Value.slice none 0 0) = w9 at HKZ HBZ ⊢
    obtain ⟨d0, d1, d2, d3, d4, d5, d6, d7, d8⟩ := HKZ.out.cells9
    exact bodyPost_ret (v := .tuple #[.agg packet0, .int .i64 2]) (by simp [results, Try.results20, go_sem, d0, d1, d2, d3, d4, d5, d6, d7, d8]) rfl (cpl_no (cpl2 (.inr (.inr (by rw [EZ.out]; exact h3)))) (by omega) rfl HBZ.out)
  subst h3
  go_wp2_with fail
  refine (quiet_any me id at_ life kind wh mo f t D bs n c _ HN.out (HS0.out.below HB.out) (by have := HLB.out; omega)).mono ?_
  obtain ⟨q, HQ⟩ : ∃ z, Hid (quietB me at_ kind f t bs = z) := ⟨_, rfl⟩
  rw [HQ.out]
  rintro e w3 ⟨rfl, hb3⟩
  replace HBX := Lib.hid (HBX.out.below hb3 HBX.out.lt)
  replace HRS := Lib.hid (HRS.out.below hb3 HRS.out.lt)
  replace HSL := Lib.hid (HSL.out.below hb3)
  replace HB := Lib.hid (HB.out.trans (hb3.mono HB.out.size))
  clear hb3 x0 x1 x2 x3 x4 x5 x6 x7 x8
  obtain ⟨x0, x1, x2, x3, x4, x5, x6, x7, x8⟩ := HBX.out.cells9
  cases q
  rotate_left
  · obtain ⟨r0, r1, r2, r3, r4, r5, r6, r7, r8⟩ := HRS.out.cells9
    obtain ⟨q0, q1, q2, q3, q4, q5, q6, q7, q8⟩ := HRS.out.frees9
    obtain ⟨hk, hg⟩ := HRS.out.store9 (.int .i64 0) (.int .i64 0) (.int .i64 0) (.int .i64 0) (.bool false) (.bool false) (.int .u32 0) (.int .u32 0) (.slice none 0 0)
    have HKZ := Lib.hid hk
    have HBZ := Lib.hid (below_grown HB.out hg (Nat.le_refl _) (by omega))
    clear hk hg
    go_wp2_with fail
    generalize World.setCell _ _ (Value.slice none 0 0) = w9 at HKZ HBZ ⊢
    obtain ⟨d0, d1, d2, d3, d4, d5, d6, d7, d8⟩ := HKZ.out.cells9
    exact bodyPost_ret (v := .tuple #[.agg packet0, .int .i64 5]) (by simp [results, Try.results20, go_sem, d0, d1, d2, d3, d4, d5, d6, d7, d8]) rfl (cpl_no (cpl5 (by omega) (by omega) EZ.out HQ.out) (by omega) rfl HBZ.out)
  have HOK : Hid (cplErr me code id at_ life kind f t bs = 0) := cpl0 (by omega) (by omega) EZ.out (HQ.out)
  have HOI : Hid ((outIp id at_ life kind wh mo f t bs).length = 20 + n) := by show _ = _; rw [outIp, if_pos EZ.out, ipBytes_length n HN.out]
  have hol : 20 ≤ ol := by rw [← EOL.out, HOI.out]; omega
  have hcap : (ol : Int) ≤ (x : Int) := by have := HSL.out.2.1; rw [EOL.out] at this; omega
  have hT := HSL.out.take 28
  obtain ⟨m, EM⟩ : ∃ z, Hid (((outIp id at_ life kind wh mo f t bs).take 28).length = z) := ⟨_, rfl⟩
  have hm : m = min 28 ol := by rw [← EM.out, List.length_take, EOL.out]
  have hm28 : m ≤ 28 := by omega
  have HT := Lib.hid hT
  clear hT
  have HM := Lib.hid hm
  clear hm
  rcases Nat.lt_or_ge 28 ol with hlt | hge
  case' inl =>
    obtain rfl : m = 28 := by have := HM.out; omega
    have hlt' : (28 : Int) < (ol : Int) := by omega
  case' inr =>
    obtain rfl : m = ol := by have := HM.out; omega
    have hge' : (m : Int) ≤ 28 := by omega
  all_goals
    go_wp2_with fail
    refine (build_n 3 code 0 X ((outIp id at_ life kind wh mo f t bs).take 28) _ x _ EM.out (by omega) (by omega) HT.out).mono ?_
    rintro e w5 ⟨X5, y5, rfl, ho5, hb5⟩
    have ee : errB 3 code ((outIp id at_ life kind wh mo f t bs).take 28).length = 0 := errB3 (by omega) (by omega) _ (by rw [EM.out]; omega)
    have eo : outB 3 code 0 ((outIp id at_ life kind wh mo f t bs).take 28) = msg 3 code 0 ((outIp id at_ life kind wh mo f t bs).take 28) := by rw [outB, if_pos ee]
    rw [eo] at ho5 ⊢
    rw [ee]
    obtain ⟨ml, EML⟩ : ∃ z, Hid ((msg 3 code 0 ((outIp id at_ life kind wh mo f t bs).take 28)).length = z) := ⟨_, rfl⟩
    rw [EML.out]
    replace HBX := Lib.hid (HBX.out.below hb5 HBX.out.lt)
    replace HRS := Lib.hid (HRS.out.below hb5 HRS.out.lt)
    have HO5 := Lib.hid (ho5.base HB.out.size)
    replace HB := Lib.hid (HB.out.trans (hb5.mono HB.out.size))
    clear hb5 ho5 ee eo x0 x1 x2 x3 x4 x5 x6 x7 x8
    obtain ⟨x0, x1, x2, x3, x4, x5, x6, x7, x8⟩ := HBX.out.cells9
    go_wp2_with fail
    refine (back_any me id at_ life kind wh mo f t D n c X5 ml y5 _).mono ?_
    rintro e w6 ⟨rfl, hb6⟩
    replace HRS := Lib.hid (HRS.out.below hb6 HRS.out.lt)
    replace HO5 := Lib.hid (HO5.out.keep hb6)
    replace HB := Lib.hid (HB.out.trans (hb6.mono HB.out.size))
    clear hb6 x0 x1 x2 x3 x4 x5 x6 x7 x8
    obtain ⟨r0, r1, r2, r3, r4, r5, r6, r7, r8⟩ := HRS.out.cells9
    obtain ⟨q0, q1, q2, q3, q4, q5, q6, q7, q8⟩ := HRS.out.frees9
    obtain ⟨hk, hg⟩ := HRS.out.store9 (.int .i64 id) (.int .i64 0) (.int .i64 64) (.int .i64 1) (.bool false) (.bool false) (.int .u32 me) (.int .u32 f) (.slice X5 ml y5)
    have HK := Lib.hid hk
    have HBF := Lib.hid (below_grown HB.out hg (Nat.le_refl _) (by omega))
    have HOF := Lib.hid (HO5.out.grown HRS.out (by decide) hg)
    clear hk hg
    go_wp2_with fail
    generalize World.setCell _ _ (Value.slice X5 ml y5) = w9 at HK HBF HOF ⊢
    obtain ⟨d0, d1, d2, d3, d4, d5, d6, d7, d8⟩ := HK.out.cells9
    exact bodyPost_ret (v := .tuple #[.agg (packet id 0 64 1 false false me f X5 ml y5), .int .i64 0]) (by simp [results, Try.results20, go_sem, d0, d1, d2, d3, d4, d5, d6, d7, d8]) rfl (cpl_yes HOK.out (by rw [EML.out]) HOF.out HBF.out)
end Go.Proofs.Ytnphhikbdffmpaa
