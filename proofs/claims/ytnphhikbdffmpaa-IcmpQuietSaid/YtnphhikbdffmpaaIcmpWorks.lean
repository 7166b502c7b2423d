/-
  The walks of the law package's echo and works.
-/
import Derived.Test.YtnphhikbdffmpaaIcmp8
namespace Go.Proofs.Ytnphhikbdffmpaa
open Go.RowKit

/-- echo's packet. -/
def Echoed (f t r : Int) (bs : List UInt8) (w : World) (e : Ending) (w' : World) : Prop :=
  ∃ X x, e = .returned (.agg (packet 7 0 9 1 false false f t X (outB 8 0 r bs).length x)) ∧ Own w' w.heap.size X x (outB 8 0 r bs) ∧ Below w.heap.size w w'
set_option maxHeartbeats 4000000 in
set_option maxRecDepth 100000 in
theorem echo_any (f t k c r : Int) (D : Option Addr) (bs : List UInt8) (n d : Nat) (w : World) (hn : bs.length = n) (r0 : 0 ≤ r) (r1 : r < 4294967296) (hs : Sl w D d bs) :
    Calls Try.prog 15 #[.int .u32 f, .int .u32 t, .agg #[.int .i64 k, .int .i64 c, .int .u32 r, .slice D n d]] w (Echoed f t r bs w) := by
  have hb1 : Below w.heap.size w ((w.alloc (.cells #[.int .i64 k, .int .i64 c, .int .u32 r, .slice D n d] 25)).alloc (.cells packet0 41)) := ((Below.refl _ _).alloc (Nat.le_refl _) _).alloc (by simp) _
  have hs1 := hs.below hb1
  have hrs := blk_new (w.alloc (.cells #[.int .i64 k, .int .i64 c, .int .u32 r, .slice D n d] 25)) 41 packet0
  have hG : (w.alloc (.cells #[.int .i64 k, .int .i64 c, .int .u32 r, .slice D n d] 25)).heap.size = w.heap.size + 1 := by simp
  rw [hG] at hrs
  clear hG hs
  have HN := Lib.hid hn
  clear hn
  go_enter Try.func15, Try.ntmps15
  go_wp2_with fail
  generalize (w.alloc (.cells #[.int .i64 k, .int .i64 c, .int .u32 r, .slice D n d] 25)).alloc (.cells packet0 41) = w1 at *
  refine (build_n 8 0 r D bs n d _ HN.out r0 r1 hs1).mono ?_
  rintro e w2 ⟨X, x, rfl, ho, hb2⟩
  have hrs2 := hrs.below hb2 hrs.lt
  have hz1 : w.heap.size ≤ w1.heap.size := hb1.size
  have hb3 := hb1.trans (hb2.mono hb1.size)
  have ho2 := ho.base hz1
  obtain ⟨r0', r1', r2, r3, r4, r5, r6, r7, r8⟩ := hrs2.cells9
  obtain ⟨f0, f1, f2, f3, f4, f5, f6, f7, f8⟩ := hrs2.frees9
  obtain ⟨ol, EOL⟩ : ∃ z, Hid ((outB 8 0 r bs).length = z) := ⟨_, rfl⟩
  obtain ⟨zE, EZ⟩ : ∃ z, Hid (errB 8 0 bs.length = z) := ⟨_, rfl⟩
  rw [EZ.out, EOL.out]
  obtain ⟨hk, hg⟩ := hrs2.store9 (.int .i64 7) (.int .i64 0) (.int .i64 9) (.int .i64 1) (.bool false) (.bool false) (.int .u32 f) (.int .u32 t) (.slice X ol x)
  have HK := Lib.hid hk
  have HBF := Lib.hid (below_grown hb3 hg (Nat.le_refl _) (by omega))
  have HOF := Lib.hid (ho2.grown hrs2 (by decide) hg)
  clear hk hg hrs2 ho2 hb3 hb2 hb1 hs1 hrs ho
  go_wp2_with fail
  generalize World.setCell _ _ (Value.slice X ol x) = w6 at HK HBF HOF ⊢
  obtain ⟨d0, d1, d2, d3, d4, d5, d6, d7, d8⟩ := HK.out.cells9
  exact bodyPost_ret (v := .agg (packet 7 0 9 1 false false f t X ol x)) (by simp [results, Try.results15, go_sem, d0, d1, d2, d3, d4, d5, d6, d7, d8]) rfl ⟨X, x, by rw [EOL.out], HOF.out, HBF.out⟩

theorem outB_echo (r : Int) (bs : List UInt8) (h : bs.length ≤ 1472) : outB 8 0 r bs = msg 8 0 r bs := by
  rw [outB, if_pos]
  rw [errB, if_pos ⟨⟨by omega, by omega⟩, ⟨by omega, by omega⟩⟩, if_neg (by omega)]
theorem errB0 (n : Nat) : errB 0 0 n = if (1472 : Int) < n then 3 else 0 := by rw [errB, if_pos ⟨⟨by omega, by omega⟩, ⟨by omega, by omega⟩⟩]
theorem kindR_msg (k c r : Int) (d : List UInt8) (h0 : 0 ≤ k) (h1 : k ≤ 255) : kindR (msg k c r d) = k := by rw [kindR, if_pos (msg_ok k c r d), msg_kind, u8_toNat k h0 (by omega)]
theorem codeR_msg (k c r : Int) (d : List UInt8) (h0 : 0 ≤ c) (h1 : c ≤ 255) : codeR (msg k c r d) = c := by rw [codeR, if_pos (msg_ok k c r d), msg_code, u8_toNat c h0 (by omega)]
theorem restR_msg (k c r : Int) (d : List UInt8) (h0 : 0 ≤ r) (h1 : r < 4294967296) : restR (msg k c r d) = r := by rw [restR, if_pos (msg_ok k c r d), msg_rest k c r d h0 h1]
theorem dataR_msg (k c r : Int) (d : List UInt8) : dataR (msg k c r d) = d := by rw [dataR, if_pos (msg_ok k c r d), msg_drop]
theorem errR_msg (k c r : Int) (d : List UInt8) : errR (msg k c r d) = 0 := by rw [errR, if_pos (msg_ok k c r d)]
/-- What asks for an echo is answered. -/
theorem ans_echo (me r : Int) (d : List UInt8) (h : d.length ≤ 1472) : ansOk me 0 1 false me (msg 8 0 r d) :=
  ⟨⟨rfl, rfl, rfl, rfl⟩, errR_msg _ _ _ _, kindR_msg _ _ _ _ (by omega) (by omega), codeR_msg _ _ _ _ (by omega) (by omega), by rw [dataR_msg, errB0, if_neg (by omega)]⟩

theorem bs_own_lit (w : World) (bs : List UInt8) (B : Nat) (hB : B ≤ w.heap.size) (hl : bs.length ≤ 1000) : Own (w.alloc (.cells (bs.map bval).toArray 5)) B (some ⟨w.heap.size, 0, none⟩) bs.length bs :=
  row_of_blk (t := 5) (blk_new _ _ _) hB rfl (by omega)

set_option maxHeartbeats 4000000 in
set_option maxRecDepth 100000 in
theorem works_any (w : World) : Calls Try.prog 14 #[] w fun e w' => e = .returned (.bool true) ∧ Below w.heap.size w w' := by
  have hlit := bs_own_lit w [1, 2, 3] w.heap.size (Nat.le_refl _) (by decide)
  have hb1 : Below w.heap.size w (w.alloc (.cells ([1, 2, 3].map bval).toArray 5)) := (Below.refl _ _).alloc (Nat.le_refl _) _
  have HL := Lib.hid hlit
  have HB1 := Lib.hid hb1
  clear hlit hb1
  go_enter Try.func14, Try.ntmps14
  go_wp2_with fail
  refine (echo_any 2 1 0 0 9 _ [1, 2, 3] 3 3 _ rfl (by omega) (by omega) HL.out.sl).mono ?_
  rintro e w2 ⟨X, x, rfl, ho, hb2⟩
  have hb := HB1.out.trans (hb2.mono HB1.out.size)
  have eo : outB 8 0 9 [1, 2, 3] = msg 8 0 9 [1, 2, 3] := outB_echo 9 _ (by decide)
  rw [eo] at ho ⊢
  replace ho := ho.base HB1.out.size
  clear eo hb2 HL HB1
  obtain ⟨ol, EOL⟩ : ∃ z, Hid ((msg 8 0 9 [1, 2, 3]).length = z) := ⟨_, rfl⟩
  rw [EOL.out]
  go_wp2_with fail
  refine (answer_any 1 7 0 9 1 false false 2 1 X (msg 8 0 9 [1, 2, 3]) ol x _ EOL.out ho.sl (by rw [msg_length]; decide)).mono ?_
  rw [decide_eq_true (ans_echo 1 9 [1, 2, 3] (by decide))]
  rintro e w3 ⟨X3, x3, rfl, ho3, hb3⟩
  simp only [if_true] at ho3 ⊢
  rw [restR_msg _ _ _ _ (by omega) (by omega), dataR_msg] at ho3 ⊢
  replace ho3 := ho3.base hb.size
  replace hb := hb.trans (hb3.mono hb.size)
  clear ho hb3
  obtain ⟨ol3, EOL3⟩ : ∃ z, Hid ((msg 0 0 9 [1, 2, 3]).length = z) := ⟨_, rfl⟩
  rw [EOL3.out]
  have hb4 := hb.alloc hb.size (.cells (packet 7 0 64 1 false false 1 2 X3 ol3 x3) 41)
  have hp4 := blk_new w3 41 (packet 7 0 64 1 false false 1 2 X3 ol3 x3)
  have ho4 := ho3.keep ((Below.refl _ _).alloc (Nat.le_refl _) (.cells (packet 7 0 64 1 false false 1 2 X3 ol3 x3) 41))
  clear hb ho3
  go_wp2_with fail
  generalize w3.alloc (.cells (packet 7 0 64 1 false false 1 2 X3 ol3 x3) 41) = w4 at *
  refine (read_n X3 (msg 0 0 9 [1, 2, 3]) ol3 x3 w4 EOL3.out ho4.sl (by rw [msg_length]; decide)).mono ?_
  rintro e w5 ⟨X5, x5, rfl, ho5, hb5⟩
  rw [kindR_msg _ _ _ _ (by omega) (by omega), codeR_msg _ _ _ _ (by omega) (by omega), restR_msg _ _ _ _ (by omega) (by omega), errR_msg, dataR_msg]
  rw [dataR_msg] at ho5
  replace hp4 := hp4.below hb5 hp4.lt
  replace ho5 := ho5.base hb4.size
  replace hb4 := hb4.trans (hb5.mono hb4.size)
  clear ho4 hb5
  have e3 : ([1, 2, 3] : List UInt8).length = 3 := rfl
  rw [e3]
  clear e3
  replace hp4 := blk_old hp4 (.cells #[.int .i64 0, .int .i64 0, .int .u32 9, .slice X5 3 x5] 25)
  have hm4 := blk_new w5 25 #[.int .i64 0, .int .i64 0, .int .u32 9, .slice X5 3 x5]
  replace hb4 := hb4.alloc hb4.size (.cells #[.int .i64 0, .int .i64 0, .int .u32 9, .slice X5 3 x5] 25)
  replace ho5 := ho5.keep ((Below.refl _ _).alloc (Nat.le_refl _) (.cells #[.int .i64 0, .int .i64 0, .int .u32 9, .slice X5 3 x5] 25))
  have HB4 := Lib.hid (hb4.alloc hb4.size (.cells #[.int .u8 1, .int .u8 2, .int .u8 3] 5))
  have HO5 := Lib.hid (ho5.keep ((Below.refl _ _).alloc (Nat.le_refl _) (.cells #[.int .u8 1, .int .u8 2, .int .u8 3] 5)))
  have HL5 : Hid (Bs ((w5.alloc (.cells #[.int .i64 0, .int .i64 0, .int .u32 9, .slice X5 3 x5] 25)).alloc (.cells #[.int .u8 1, .int .u8 2, .int .u8 3] 5)) (some ⟨w5.heap.size + 1, 0, none⟩) [1, 2, 3]) := by
    have h := bs_lit (w5.alloc (.cells #[.int .i64 0, .int .i64 0, .int .u32 9, .slice X5 3 x5] 25)) [1, 2, 3]
    have hz : (w5.alloc (.cells #[.int .i64 0, .int .i64 0, .int .u32 9, .slice X5 3 x5] 25)).heap.size = w5.heap.size + 1 := by simp
    rw [hz] at h
    exact h
  obtain ⟨x0, x1, x2, x3', x4, x5', x6, x7, x8⟩ := hp4.cells9
  clear hp4 hm4 hb4 ho5
  go_wp2_with fail
  refine (same_n X5 [1, 2, 3] 3 x5 _ [1, 2, 3] 3 3 _ rfl rfl HO5.out.bs HL5.out).mono ?_
  rintro e w7 ⟨rfl, rfl⟩
  rw [decide_eq_true rfl]
  go_wp2_with fail
  go_ret
  exact ⟨rfl, HB4.out⟩
end Go.Proofs.Ytnphhikbdffmpaa
