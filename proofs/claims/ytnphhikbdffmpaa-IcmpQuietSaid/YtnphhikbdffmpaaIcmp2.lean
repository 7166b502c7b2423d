/-
  The walk of icmp.Build, on: a message's bytes.
-/
import Derived.Test.YtnphhikbdffmpaaIcmp1
import Derived.Test.YtnphhikbdffmpaaPlainIcmp
namespace Go.Proofs.Ytnphhikbdffmpaa
open Go.RowKit

theorem own_make (w : World) (B l c : Nat) (hB : B ≤ w.heap.size) (hl : l ≤ c) (hc : c ≤ 9223372036854775807) :
    Own (w.alloc (.cells (madeCells #[.int .u8 0] c) 5)) B (some ⟨w.heap.size, 0, none⟩) c (List.replicate l 0) := by
  refine ⟨by simp, .inr ⟨w.heap.size, c, _, by simp, hB, heap_alloc_new w _, by simpa using hl, by simpa [maxLen] using hc, by rw [size_madeCells, Nat.mul_one], ?_⟩⟩
  rw [toList_madeCells_one]
  simp [bval]
  omega
theorem make_bytes (l c : Nat) (hl : l ≤ c) (h : c ≤ 70000) (W : World) : (Instr.makeSlice 23 (.int .i64 (l : Int)) (.int .i64 (c : Int))).run Try.prog W = .ok (.slice (some ⟨W.heap.size, 0, none⟩) l c) (W.alloc (.cells (madeCells #[.int .u8 0] c) 5)) := by
  obtain ⟨i0, hi, hz0, hz1, hz2⟩ := info_parts info_u8
  have := run_make (P := Try.prog) W 23 5 i0 (.int .u8 0) Try.underlying23 hi hz0 .i64 .i64 l c (by omega) (by omega) (by rw [hz2]; omega) (by omega)
  rw [Int.toNat_natCast, Int.toNat_natCast, hz1, Nat.mul_one] at this
  exact this

theorem of_n (A : Option Addr) (bs : List UInt8) (n c : Nat) (w : World) (hn : bs.length = n) (hb : Bs w A bs) (hl : bs.length ≤ 9223372036854775807) :
    Calls Try.prog 24 #[.slice A n c] w fun e w' => e = .returned (.int .u16 (65535 - rnd (words bs) : Nat)) ∧ Drawn w w' := by
  subst hn
  exact of_any A bs c w hb hl
theorem own_val {w : World} {B g j : Nat} {v v' : Int} {c : Nat} {xs : List UInt8} (h : Own (w.setCell ⟨g, j, none⟩ (.int .u8 v)) B (some ⟨g, 0, none⟩) c xs) (e : v = v') : Own (w.setCell ⟨g, j, none⟩ (.int .u8 v')) B (some ⟨g, 0, none⟩) c xs := by
  subst e
  exact h

set_option maxHeartbeats 4000000 in
set_option maxRecDepth 100000 in
theorem build_any (k c r : Int) (D : Option Addr) (bs : List UInt8) (d : Nat) (w : World) (h : 0 ≤ k ∧ k ≤ 255) (h' : 0 ≤ c ∧ c ≤ 255) (r0 : 0 ≤ r) (r1 : r < 4294967296) (hn : (bs.length : Int) ≤ 1472) (hs : Sl w D d bs) :
    Calls Try.prog 8 #[.agg #[.int .i64 k, .int .i64 c, .int .u32 r, .slice D bs.length d]] w fun e w' => ∃ X x, e = .returned (.tuple #[.slice X (msg k c r bs).length x, .int .i64 0]) ∧ Own w' w.heap.size X x (msg k c r bs) ∧ Below w.heap.size w w' := by
  have hb : Below w.heap.size w (w.alloc (.cells #[.int .i64 k, .int .i64 c, .int .u32 r, .slice D bs.length d] 25)) := (Below.refl _ _).alloc (Nat.le_refl _) _
  have mk : ∀ W : World, (Instr.makeSlice 23 (.int .i64 8) (.int .i64 (8 + (bs.length : Int)))).run Try.prog W = .ok (.slice (some ⟨W.heap.size, 0, none⟩) 8 (8 + bs.length)) (W.alloc (.cells (madeCells #[.int .u8 0] (8 + bs.length)) 5)) := fun W => by
    have e9 : ((8 + bs.length : Nat) : Int) = 8 + (bs.length : Int) := by omega
    have := make_bytes 8 (8 + bs.length) (by omega) (by omega) W
    rw [e9] at this
    exact this
  go_enter Try.func8, Try.ntmps8
  go_wp2_with fail
  refine (octet_any k _).mono ?_
  rintro e w' ⟨rfl, rfl⟩
  rw [decide_eq_true h]
  go_wp2_with fail
  refine (octet_any c _).mono ?_
  rintro e w' ⟨rfl, rfl⟩
  rw [decide_eq_true h']
  go_wp2_with fail
  have hown := own_make (w.alloc (.cells #[.int .i64 k, .int .i64 c, .int .u32 r, .slice D bs.length d] 25)) w.heap.size 8 (8 + bs.length) (by simp) (by omega) (by omega)
  have hblk := blk_old (blk_new w 25 #[.int .i64 k, .int .i64 c, .int .u32 r, .slice D bs.length d]) (.cells (madeCells #[.int .u8 0] (8 + bs.length)) 5)
  have hb2 := hb.alloc (by simp) (.cells (madeCells #[.int .u8 0] (8 + bs.length)) 5)
  have hG : (w.alloc (.cells #[.int .i64 k, .int .i64 c, .int .u32 r, .slice D bs.length d] 25)).heap.size = w.heap.size + 1 := by simp
  rw [hG] at hown
  clear hG hb mk
  generalize (w.alloc (.cells #[.int .i64 k, .int .i64 c, .int .u32 r, .slice D bs.length d] 25)).alloc (.cells (madeCells #[.int .u8 0] (8 + bs.length)) 5) = w2 at *
  have hGG : ∃ G1, G1 = w.heap.size + 1 := ⟨_, rfl⟩
  obtain ⟨G1, eG1⟩ := hGG
  rw [← eG1] at hown ⊢
  have n1 : w.heap.size ≠ G1 := by omega
  have n2 : G1 ≠ w.heap.size := by omega
  have B1 : Hid (w.heap.size ≤ G1) := by show _ ≤ _; omega
  have c0 := hblk.cell 0
  have c1 := hblk.cell 1
  have c2 := hblk.cell 2
  have c3 := hblk.cell 3
  simp only [List.getElem?_toArray, List.getElem?_cons_zero, List.getElem?_cons_succ] at c0 c1 c2 c3
  have o0 := hown.cell 0 (by simp)
  have o1 := hown.cell 1 (by simp)
  have f0 := hown.free 0
  have f1 := hown.free 1
  have HO := Lib.hid hown
  have HK := Lib.hid hblk
  have HB2 := Lib.hid hb2
  have HSS := Lib.hid hs
  clear hown hblk hb2 hs eG1
  generalize hGe : w.heap.size = G at *
  replace hGe := Lib.hid hGe
  go_region
  have ho3 := ((HO.out.set 0 k (by omega) (by omega)).set 1 c (by omega) (by omega)).drawn ⟨1, rfl⟩
  have hk3 : Blk (((w2.setCell ⟨G1, 0, none⟩ (.int .u8 k)).setCell ⟨G1, 1, none⟩ (.int .u8 c)).drewN 1) G 25 #[.int .i64 k, .int .i64 c, .int .u32 r, .slice D bs.length d] :=
    ((HK.out.far (p := ⟨G1, 0, none⟩) n1 _).far (p := ⟨G1, 1, none⟩) n1 _).keep rfl
  have hb3 : Below G w (((w2.setCell ⟨G1, 0, none⟩ (.int .u8 k)).setCell ⟨G1, 1, none⟩ (.int .u8 c)).drewN 1) := below_drewN ((HB2.out.setCell (p := ⟨G1, 0, none⟩) B1.out _).setCell (p := ⟨G1, 1, none⟩) B1.out _) 1
  have hdr : ((w2.setCell ⟨G1, 0, none⟩ (.int .u8 k)).setCell ⟨G1, 1, none⟩ (.int .u8 c)).drew = ((w2.setCell ⟨G1, 0, none⟩ (.int .u8 k)).setCell ⟨G1, 1, none⟩ (.int .u8 c)).drewN 1 := rfl
  rw [hdr]
  clear hdr HO HK HB2 c0 c1 c2 c3 o0 o1 f0 f1
  generalize ((w2.setCell ⟨G1, 0, none⟩ (.int .u8 k)).setCell ⟨G1, 1, none⟩ (.int .u8 c)).drewN 1 = w3 at *
  have HI : Hid (Own w3 G (some ⟨G1, 0, none⟩) (8 + bs.length) ([u8 k, u8 c, 0, 0] ++ (head4 r).take 0 ++ List.replicate 4 0)) := ho3
  have HK := Lib.hid hk3
  have HB := Lib.hid hb3
  clear ho3 hk3 hb3
  go_wp2_with fail
  go_loopw [41] (fun i wr => ∃ j : Nat, j ≤ 4 ∧ i = .int .i64 j ∧ Own wr G (some ⟨G1, 0, none⟩) (8 + bs.length) ([u8 k, u8 c, 0, 0] ++ (head4 r).take j ++ List.replicate (4 - j) 0) ∧ Blk wr G 25 #[.int .i64 k, .int .i64 c, .int .u32 r, .slice D bs.length d] ∧ Below G w wr) (fun i _ => 4 - (intOf i).toNat)
  case atStart => exact ⟨0, by omega, rfl, HI.out, HK.out, HB.out⟩
  case round =>
    clear HI HK HB
    obtain ⟨j, hj, rfl, hown, hblk, hbel⟩ := hrel
    have c2 := hblk.cell 2
    have c3 := hblk.cell 3
    simp only [List.getElem?_toArray, List.getElem?_cons_zero, List.getElem?_cons_succ] at c2 c3
    by_cases hj4 : j < 4
    · have oj := hown.cell (4 + j) (by simp [head4]; omega)
      have fj := hown.free (4 + j)
      have HO := Lib.hid hown
      have HK := Lib.hid hblk
      have HB := Lib.hid hbel
      clear hown hblk hbel
      rcases (by omega : j = 0 ∨ j = 1 ∨ j = 2 ∨ j = 3) with rfl | rfl | rfl | rfl
      · go_wp2_with fail
        refine ⟨⟨1, by omega, rfl, ?_, HK.out.far (p := ⟨G1, 4, none⟩) n1 _, HB.out.setCell (p := ⟨G1, 4, none⟩) B1.out _⟩, by simp [intOf]⟩
        exact own_val (HO.out.set 4 (r / 16777216 % 256) (by omega) (by omega)) (by omega)
      · go_wp2_with fail
        refine ⟨⟨2, by omega, rfl, ?_, HK.out.far (p := ⟨G1, 5, none⟩) n1 _, HB.out.setCell (p := ⟨G1, 5, none⟩) B1.out _⟩, by simp [intOf]⟩
        exact own_val (HO.out.set 5 (r / 65536 % 256) (by omega) (by omega)) (by omega)
      · go_wp2_with fail
        refine ⟨⟨3, by omega, rfl, ?_, HK.out.far (p := ⟨G1, 6, none⟩) n1 _, HB.out.setCell (p := ⟨G1, 6, none⟩) B1.out _⟩, by simp [intOf]⟩
        exact own_val (HO.out.set 6 (r / 256 % 256) (by omega) (by omega)) (by omega)
      · go_wp2_with fail
        refine ⟨⟨4, by omega, rfl, ?_, HK.out.far (p := ⟨G1, 7, none⟩) n1 _, HB.out.setCell (p := ⟨G1, 7, none⟩) B1.out _⟩, by simp [intOf]⟩
        exact own_val (HO.out.set 7 (r % 256) (by omega) (by omega)) (by omega)
    · have ej : j = 4 := by omega
      subst ej
      have l8 : Hid (([u8 k, u8 c, 0, 0] ++ (head4 r).take 4 ++ List.replicate (4 - 4) 0 : List UInt8).length = 8) := rfl
      have hs4 := Lib.hid (HSS.out.below (by rw [hGe.out]; exact hbel))
      have HO : Hid (Own wr G (some ⟨G1, 0, none⟩) (8 + bs.length) ([u8 k, u8 c, 0, 0] ++ (head4 r).take 4 ++ List.replicate (4 - 4) 0)) := hown
      have HK := Lib.hid hblk
      have HB := Lib.hid hbel
      clear hown hblk hbel
      have SZ : Hid (G ≤ wr.heap.size) := by have := HK.out.lt; show _ ≤ _; omega
      have E0 : Hid ([u8 k, u8 c, 0, 0] ++ (head4 r).take 4 ++ List.replicate (4 - 4) 0 ++ bs = msg0 k c r bs) := by show _ = _; simp [msg0, head4]
      generalize [u8 k, u8 c, 0, 0] ++ (head4 r).take 4 ++ List.replicate (4 - 4) 0 = hd at *
      have LL : Hid (hd.length + bs.length ≤ 140737488355328) := by show _ ≤ _; rw [l8.out]; omega
      have LM : Hid ((msg0 k c r bs).length = 8 + bs.length) := by show _ = _; rw [← E0.out, List.length_append, l8.out]
      go_wp2_with (at_builtin; refine app_n _ rfl _ _ rfl G (some ⟨G1, 0, none⟩) (8 + bs.length) hd 8 l8.out rfl HO.out D d bs _ rfl rfl hs4.out LL.out SZ.out ?_; intro A2 c2' w4 ho4 hg4)
      rw [E0.out] at ho4
      have hb4 := HB.out.grown hg4 SZ.out (fun q hq => by have : G1 = q := by simpa [Value.ownBlock] using hq
                                                          have := B1.out; omega)
      have sz4 := hg4.size
      refine (of_n A2 (msg0 k c r bs) (8 + bs.length) c2' w4 LM.out ho4.bs (by rw [LM.out]; omega)).mono ?_
      rintro e w5 ⟨rfl, hd5⟩
      have ho5 := ho4.drawn hd5
      have hb5 := hb4.trans (hd5.below G)
      obtain ⟨g2, rfl, hg2, hlt2⟩ := ho5.form (by rw [LM.out]; omega)
      have zb := rnd_le (words (msg0 k c r bs))
      obtain ⟨z, EZ⟩ : ∃ z : Int, Hid (((65535 - rnd (words (msg0 k c r bs)) : Nat) : Int) = z) := ⟨_, rfl⟩
      rw [EZ.out]
      have z0 : 0 ≤ z := by rw [← EZ.out]; omega
      have z1 : z < 65536 := by rw [← EZ.out]; omega
      have o2 := ho5.cell 2 (by rw [LM.out]; omega)
      have o3 := ho5.cell 3 (by rw [LM.out]; omega)
      have f2 := ho5.free 2
      have f3 := ho5.free 3
      have HO5 := Lib.hid ho5
      have HB5 := Lib.hid hb5
      have HG2 := Lib.hid hg2
      clear ho4 hg4 hb4 ho5 hb5 hd5 zb hg2 HO HK HB hs4 LL c2 c3 sz4 SZ
      go_wp2_with fail
      go_ret2
      have LMM : (msg k c r bs).length = 8 + bs.length := by unfold msg; rw [List.length_set, List.length_set, LM.out]
      have ho6 := (HO5.out.set 2 (z / 256) (by omega) (by omega)).set 3 (z % 256) (by omega) (by omega)
      have em : ((msg0 k c r bs).set 2 (UInt8.ofNat (z / 256).toNat)).set 3 (UInt8.ofNat (z % 256).toNat) = msg k c r bs := by
        unfold msg u8 sumMsg
        have e1 : (z / 256).toNat = (((65535 - rnd (words (msg0 k c r bs))) / 256 : Nat) : Int).toNat := by rw [← EZ.out]; omega
        have e2 : (z % 256).toNat = (((65535 - rnd (words (msg0 k c r bs))) % 256 : Nat) : Int).toNat := by rw [← EZ.out]; omega
        rw [e1, e2]
      rw [em] at ho6
      refine ⟨some ⟨g2, 0, none⟩, c2', (by rw [LMM] : Ending.returned (.tuple #[.slice (some ⟨g2, 0, none⟩) (8 + bs.length) c2', .int .i64 0]) = _), by rw [hGe.out]; exact ho6, ?_⟩
      rw [hGe.out]
      exact (HB5.out.setCell (p := ⟨g2, 2, none⟩) HG2.out _).setCell (p := ⟨g2, 3, none⟩) HG2.out _
end Go.Proofs.Ytnphhikbdffmpaa
