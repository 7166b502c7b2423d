/-
  The walk of the reference's Read.
-/
import Derived.Test.YtnphhikbdffmpaaIcmp5
import Derived.Test.YtnphhikbdffmpaaIcmp4
namespace Go.Proofs.Ytnphhikbdffmpaa
open Go.RowKit

theorem refright_n (A : Option Addr) (bs : List UInt8) (n c : Nat) (w : World) (hn : bs.length = n) (hb : Bs w A bs) (hl : bs.length ≤ 9223372036854775800) :
    Calls Try.prog 27 #[.slice A n c] w fun e w' => e = .returned (.bool (rnd (words bs) == 65535)) ∧ w = w' := by
  subst hn
  exact refright_any A bs c w hb hl
theorem rread_short (A : Option Addr) (n c : Nat) (w : World) (h : (n : Int) < 8) :
    Calls Try.prog 12 #[.slice A n c] w fun e w' => e = .returned (.tuple #[.agg #[.int .i64 0, .int .i64 0, .int .u32 0, .slice none 0 0], .int .i64 90]) ∧ Below w.heap.size w w' := by
  go_enter Try.func12, Try.ntmps12
  go_wp2_with fail
  exact bodyPost_ret (v := .tuple #[.agg #[.int .i64 0, .int .i64 0, .int .u32 0, .slice none 0 0], .int .i64 90]) (by simp [results, Try.results12, go_sem]) rfl ⟨rfl, (Below.refl _ _).alloc (Nat.le_refl _) _⟩
theorem rread_wrong (A : Option Addr) (bs : List UInt8) (n c : Nat) (w : World) (hn : bs.length = n) (h : ¬ (n : Int) < 8) (hb : Bs w A bs) (hl : bs.length ≤ 9223372036854775800) (hr : rnd (words bs) ≠ 65535) :
    Calls Try.prog 12 #[.slice A n c] w fun e w' => e = .returned (.tuple #[.agg #[.int .i64 0, .int .i64 0, .int .u32 0, .slice none 0 0], .int .i64 90]) ∧ Below w.heap.size w w' := by
  have hbl : Below w.heap.size w (w.alloc (.cells #[.int .i64 0, .int .i64 0, .int .u32 0, .slice none 0 0] 31)) := (Below.refl _ _).alloc (Nat.le_refl _) _
  have hbb := Lib.hid (hb.below hbl)
  have HN := Lib.hid hn
  have HL := Lib.hid hl
  have ef : (rnd (words bs) == 65535) = false := by simpa using hr
  have EF := Lib.hid ef
  clear hb hn hl ef hr
  go_enter Try.func12, Try.ntmps12
  go_wp2_with fail
  refine (refright_n A bs n c _ HN.out hbb.out HL.out).mono ?_
  rw [EF.out]
  rintro e w2 ⟨rfl, rfl⟩
  go_wp2_with fail
  exact bodyPost_ret (v := .tuple #[.agg #[.int .i64 0, .int .i64 0, .int .u32 0, .slice none 0 0], .int .i64 90]) (by simp [results, Try.results12, go_sem]) rfl ⟨rfl, hbl⟩

set_option maxHeartbeats 4000000 in
set_option maxRecDepth 100000 in
theorem rread_any (A : Option Addr) (bs : List UInt8) (n c : Nat) (w : World) (hn : bs.length = n) (h : 8 ≤ (n : Int)) (hs : Sl w A c bs) (hl : n ≤ 70000) (hr : rnd (words bs) = 65535) :
    Calls Try.prog 12 #[.slice A n c] w fun e w' => ∃ X x, e = .returned (.tuple #[.agg #[.int .i64 (bs.getD 0 0).toNat, .int .i64 (bs.getD 1 0).toNat, .int .u32 (restOf bs), .slice X (bs.drop 8).length x], .int .i64 0]) ∧ Own w' w.heap.size X x (bs.drop 8) ∧ Below w.heap.size w w' := by
  have hbl : Below w.heap.size w (w.alloc (.cells #[.int .i64 0, .int .i64 0, .int .u32 0, .slice none 0 0] 31)) := (Below.refl _ _).alloc (Nat.le_refl _) _
  have hss := hs.below hbl
  have hk := blk_new w 31 #[.int .i64 0, .int .i64 0, .int .u32 0, .slice none 0 0]
  have HN := Lib.hid hn
  obtain ⟨b, off, rfl, _⟩ := hs.1.at_ (by omega)
  have l1 := hs.2.1
  have l2 := hs.2.2.1
  rw [hn] at l1
  obtain ⟨b0, off0, e0', hc0⟩ := hs.1.at_ (by omega)
  injection e0' with e0'
  injection e0' with e1 e2
  subst e1 e2
  have nb0 : b ≠ w.heap.size := by have := World.block_lt_of_cell? w _ (hc0 0 (by omega)); simp at this; omega
  clear hs hn hc0
  go_enter Try.func12, Try.ntmps12
  go_wp2_with fail
  generalize w.alloc (.cells #[.int .i64 0, .int .i64 0, .int .u32 0, .slice none 0 0] 31) = w1 at *
  refine (refright_n (some ⟨b, off, none⟩) bs n c _ HN.out hss.1 (by rw [HN.out]; omega)).mono ?_
  rintro e w2 ⟨rfl, hd⟩
  subst hd
  have ef : (rnd (words bs) == 65535) = true := by simpa using hr
  rw [ef]
  obtain ⟨b', off', e', hc⟩ := hss.1.at_ (by rw [HN.out]; omega)
  injection e' with e'
  injection e' with e1 e2
  subst e1 e2
  have x0 := hc 0 (by rw [HN.out]; omega)
  have x1 := hc 1 (by rw [HN.out]; omega)
  have x4 := hc 4 (by rw [HN.out]; omega)
  have x5 := hc 5 (by rw [HN.out]; omega)
  have x6 := hc 6 (by rw [HN.out]; omega)
  have x7 := hc 7 (by rw [HN.out]; omega)
  have HR : Hid (restOf bs = _) := restOf.eq_1 bs
  obtain ⟨y0, HY0⟩ : ∃ y, Hid (bs.getD 0 0 = y) := ⟨_, rfl⟩
  obtain ⟨y1, HY1⟩ : ∃ y, Hid (bs.getD 1 0 = y) := ⟨_, rfl⟩
  obtain ⟨y4, HY4⟩ : ∃ y, Hid (bs.getD 4 0 = y) := ⟨_, rfl⟩
  obtain ⟨y5, HY5⟩ : ∃ y, Hid (bs.getD 5 0 = y) := ⟨_, rfl⟩
  obtain ⟨y6, HY6⟩ : ∃ y, Hid (bs.getD 6 0 = y) := ⟨_, rfl⟩
  obtain ⟨y7, HY7⟩ : ∃ y, Hid (bs.getD 7 0 = y) := ⟨_, rfl⟩
  rw [HY0.out] at x0
  rw [HY1.out] at x1
  rw [HY4.out] at x4 HR
  rw [HY5.out] at x5 HR
  rw [HY6.out] at x6 HR
  rw [HY7.out] at x7 HR
  have lb := World.block_lt_of_cell? w1 _ x0
  rw [Nat.add_zero] at x0
  have z0 := y0.toNat_lt
  have z1 := y1.toNat_lt
  have z4 := y4.toNat_lt
  have z5 := y5.toNat_lt
  have z6 := y6.toNat_lt
  have z7 := y7.toNat_lt
  obtain ⟨Z, hZ⟩ : ∃ Z, (if c = 8 then some (⟨b, off, none⟩ : Addr) else some (⟨b, off + 8, none⟩ : Addr)) = some Z := by split <;> exact ⟨_, rfl⟩
  have HZ : Hid (Sl w1 (some Z) (c - 8) (bs.drop 8)) := by
    have := hss.cut 8 (by rw [HN.out]; omega)
    show Sl w1 (some Z) (c - 8) (bs.drop 8)
    by_cases hc8 : c = 8
    · rw [if_pos hc8] at this hZ
      rw [← hZ]
      exact this
    · rw [if_neg hc8] at this hZ
      rw [← hZ]
      simpa [add_lit'] using this
  have LD : Hid ((bs.drop 8).length = n - 8) := by show _ = _; rw [List.length_drop, HN.out]
  have i0 : 0 < n := by omega
  have i1 : (1 : Int) < (n : Int) := by omega
  have i4 : (4 : Int) < (n : Int) := by omega
  have i5 : (5 : Int) < (n : Int) := by omega
  have i6 : (6 : Int) < (n : Int) := by omega
  have i7 : (7 : Int) < (n : Int) := by omega
  have i2 : (8 : Int) ≤ (c : Int) := by omega
  have HK := Lib.hid hk
  have HBL := Lib.hid hbl
  clear hc hk hbl hss ef hr
  go_wp2_with fail
  go_quiet (fail)
  go_wp2_with fail
  have ER : Hid (16777216 * (y4.toNat : Int) + 65536 * (y5.toNat : Int) + 256 * (y6.toNat : Int) + (y7.toNat : Int) = restOf bs) := by show _ = _; rw [HR.out]; omega
  generalize 16777216 * (y4.toNat : Int) + 65536 * (y5.toNat : Int) + 256 * (y6.toNat : Int) + (y7.toNat : Int) = rr at *
  have x0' : (w1.drewN nq).cell? ⟨b, off, none⟩ = some (.int .u8 (y0.toNat : Int)) := x0
  have x1' : (w1.drewN nq).cell? ⟨b, off + 1, none⟩ = some (.int .u8 (y1.toNat : Int)) := x1
  have HZ' := Lib.hid (HZ.out.drawn ⟨nq, rfl⟩)
  have HK' : Hid (Blk (w1.drewN nq) w.heap.size 31 #[.int .i64 0, .int .i64 0, .int .u32 0, .slice none 0 0]) := HK.out
  have HB' := Lib.hid (below_drewN HBL.out nq)
  have lb' : b < (w1.drewN nq).heap.size := lb
  clear HZ HK HBL lb x0 x1 x4 x5 x6 x7 i4 i5 i6 i7 z4 z5 z6 z7 HY4 HY5 HY6 HY7 HR
  generalize w1.drewN nq = w2 at *
  have wr0 : IntKind.i64.wrap (y0.toNat : Int) = (y0.toNat : Int) := IntWalk.i64_in _ (by omega)
  have wr1 : IntKind.i64.wrap (y1.toNat : Int) = (y1.toNat : Int) := IntWalk.i64_in _ (by omega)
  go_region_held3 (fun w' => w'.cell? ⟨b, off, none⟩ = some (.int .u8 (y0.toNat : Int)) ∧ w'.cell? ⟨b, off + 1, none⟩ = some (.int .u8 (y1.toNat : Int)))
    ((go_split_ands
      refine ⟨?_, ?_⟩ <;> first
        | (with_reducible assumption)
        | (with_reducible refine cell_alloc_old ?_; assumption)
        | (with_reducible refine cell_set_far ?_ nb0; refine cell_set_far ?_ nb0; refine cell_set_far ?_ nb0; refine cell_set_far ?_ nb0; assumption)
        | (rw [hgrow.cell_far _ (by simp; omega) (by simp [Value.ownBlock]; omega)]; with_reducible assumption)
        | go_keep))
    ((refine step_app _ (by rfl) _ _ (by rfl) w2.heap.size _ 0 [] 0 rfl (by rfl) ?own Z (c - 8) (bs.drop 8) _ LD.out (by rfl) ?src (by rw [LD.out]; simp; omega) (by simp; try omega) ?_
      case own => exact own_nil_blk (blk_top (by simp)) (by simp)
      case src => exact HZ'.out.below below_d1
      intro A2 c2 w4 hown1 hgrow
      have hm := blk_past HK'.out hgrow; have m0 := hm.cell 0; have q0 := hm.free 0; have m1 := hm.cell 1; have q1 := hm.free 1; have m2 := hm.cell 2; have q2 := hm.free 2; have m3 := hm.cell 3; have q3 := hm.free 3; simp only [List.getElem?_toArray, List.getElem?_cons_zero, List.getElem?_cons_succ] at m0 m1 m2 m3; replace hm := Lib.hid hm))
  have hbb : Below w2.heap.size w2 w4 := below_grown below_d1 hgrow (Nat.le_refl _) (by simp)
  have hk := hm.out
  have k0 := hk.set 0 (.int .i64 (y0.toNat : Int))
  have k1 := k0.set 1 (.int .i64 (y1.toNat : Int))
  have k2 := k1.set 2 (.int .u32 rr)
  have HK3 := Lib.hid (k2.set 3 (.slice A2 (n - 8) c2))
  have HO := Lib.hid (((((hown1.past hk (by decide) 0 (.int .i64 (y0.toNat : Int))).past k0 (by decide) 1 (.int .i64 (y1.toNat : Int))).past k1 (by decide) 2 (.int .u32 rr)).past k2 (by decide) 3 (.slice A2 (n - 8) c2)).base HB'.out.size)
  have HF := Lib.hid ((((((HB'.out.trans (hbb.mono HB'.out.size)).setCell (p := ⟨w.heap.size, 0, none⟩) (Nat.le_refl _) (.int .i64 (y0.toNat : Int))).setCell (p := ⟨w.heap.size, 1, none⟩) (Nat.le_refl _) (.int .i64 (y1.toNat : Int))).setCell (p := ⟨w.heap.size, 2, none⟩) (Nat.le_refl _) (.int .u32 rr)).setCell (p := ⟨w.heap.size, 3, none⟩) (Nat.le_refl _) (.slice A2 (n - 8) c2)))
  clear hk k0 k1 k2 hown1 hgrow hbb m0 m1 m2 m3 q0 q1 q2 q3
  generalize World.setCell _ _ (Value.slice A2 (n - 8) c2) = w5 at HK3 HO HF ⊢
  go_wp2_with fail
  have e0 : w5.cell? ⟨w.heap.size, 0, none⟩ = some (.int .i64 (y0.toNat : Int)) := HK3.out.cell 0
  have e1 : w5.cell? ⟨w.heap.size, 1, none⟩ = some (.int .i64 (y1.toNat : Int)) := HK3.out.cell 1
  have e2 : w5.cell? ⟨w.heap.size, 2, none⟩ = some (.int .u32 rr) := HK3.out.cell 2
  have e3 : w5.cell? ⟨w.heap.size, 3, none⟩ = some (.slice A2 (n - 8) c2) := HK3.out.cell 3
  exact bodyPost_ret (v := .tuple #[.agg #[.int .i64 (y0.toNat : Int), .int .i64 (y1.toNat : Int), .int .u32 rr, .slice A2 (n - 8) c2], .int .i64 0]) (by simp [results, Try.results12, go_sem, e0, e1, e2, e3]) rfl ⟨A2, c2, by rw [HY0.out, HY1.out, LD.out, ER.out], HO.out, HF.out⟩
end Go.Proofs.Ytnphhikbdffmpaa
