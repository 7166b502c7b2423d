/-
  The walk of ip.Build.
-/
import Derived.Test.YtpdkoooecnmjjaaIpBuild
import Derived.Test.YtpdkoooecnmjjaaBlk9
import Derived.Deep.RegionHeld3
import Derived.Test.YtpdkoooecnmjjaaAppFull
namespace Go.Proofs.Ytpdkoooecnmjjaa
open Go.RowKit

theorem of_n' (A : Option Addr) (bs : List UInt8) (n c : Nat) (w : World) (hn : bs.length = n) (hb : Bs w A bs) (hl : bs.length ≤ 9223372036854775807) :
    Calls Try.prog 35 #[.slice A n c] w fun e w' => e = .returned (.int .u16 (65535 - rnd (words bs) : Nat)) ∧ Drawn w w' := by
  subst hn
  exact of_any A bs c w hb hl

theorem ipbuild_arg (id at_ life kind : Int) (wh mo : Bool) (f t : Int) (D : Option Addr) (n c : Nat) (w : World) (h : ¬ rightP id at_ life kind) :
    Calls Try.prog 23 #[.agg (packet id at_ life kind wh mo f t D n c)] w fun e w' => e = .returned (.tuple #[.slice none 0 0, .int .i64 2]) ∧ Below w.heap.size w w' := by
  have hb : Below w.heap.size w (w.alloc (.cells (packet id at_ life kind wh mo f t D n c) 33)) := (Below.refl _ _).alloc (Nat.le_refl _) _
  have H := Lib.hid h
  clear h
  go_enter Try.func23, Try.ntmps23
  go_wp2_with fail
  refine (ipright_any id at_ life kind wh mo f t D n c _).mono ?_
  rw [decide_eq_false H.out]
  rintro e w' ⟨rfl, hb2⟩
  go_wp2_with fail
  go_ret2
  exact ⟨rfl, hb.trans (hb2.mono hb.size)⟩
theorem ipbuild_long (id at_ life kind : Int) (wh mo : Bool) (f t : Int) (D : Option Addr) (n c : Nat) (w : World) (h : rightP id at_ life kind) (hn : (65515 : Int) < n) :
    Calls Try.prog 23 #[.agg (packet id at_ life kind wh mo f t D n c)] w fun e w' => e = .returned (.tuple #[.slice none 0 0, .int .i64 3]) ∧ Below w.heap.size w w' := by
  have hb : Below w.heap.size w (w.alloc (.cells (packet id at_ life kind wh mo f t D n c) 33)) := (Below.refl _ _).alloc (Nat.le_refl _) _
  have hbx := blk_new w 33 (packet id at_ life kind wh mo f t D n c)
  have H := Lib.hid h
  clear h
  go_enter Try.func23, Try.ntmps23
  go_wp2_with fail
  generalize w.alloc (.cells (packet id at_ life kind wh mo f t D n c) 33) = w1 at *
  refine (ipright_any id at_ life kind wh mo f t D n c _).mono ?_
  rw [decide_eq_true H.out]
  rintro e w' ⟨rfl, hb2⟩
  replace hbx := hbx.below hb2 hbx.lt
  obtain ⟨x0, x1, x2, x3, x4, x5, x6, x7, x8⟩ := hbx.cells9
  go_wp2_with fail
  go_ret2
  exact ⟨rfl, hb.trans (hb2.mono hb.size)⟩

/-- The head is being laid. -/
structure HB (w1 : World) (GB G : Nat) (P : Array Value) (hdr : List UInt8) (w' : World) : Prop where
  row : Row 71 w' w1.heap.size (some ⟨G, 0, none⟩) 20 hdr
  box : Blk w' GB 33 P
  bel : Below w1.heap.size w1 w'
section
variable {w1 wa wb : World} {GB G : Nat} {P : Array Value} {hdr hdr' : List UInt8}
theorem HB.wrote (h : HB w1 GB G P hdr wa) (hGB : GB < w1.heap.size) (hr : Row 71 wb w1.heap.size (some ⟨G, 0, none⟩) 20 hdr') (hg : wa.grownBy wb (some G)) : HB w1 GB G P hdr' wb :=
  ⟨hr, h.box.grown hg (by have := h.row.lt; omega), below_grown h.bel hg (Nat.le_refl _) h.row.lt.1⟩
theorem HB.drawn (h : HB w1 GB G P hdr wa) (hd : Drawn wa wb) : HB w1 GB G P hdr wb := ⟨h.row.drawn hd, h.box.below (hd.below wa.heap.size) h.box.lt, h.bel.trans (hd.below _)⟩
theorem HB.drew (h : HB w1 GB G P hdr wa) : HB w1 GB G P hdr wa.drew := h.drawn ⟨1, rfl⟩
theorem HB.below (h : HB w1 GB G P hdr wa) (hb : Below wa.heap.size wa wb) : HB w1 GB G P hdr wb := ⟨h.row.keep hb, h.box.below hb h.box.lt, h.bel.trans (hb.mono h.bel.size)⟩
end
/-- The head's bytes, with 0 for the sum; and with it. -/
def hdr0 (id at_ life kind : Int) (wh mo : Bool) (f t : Int) (n : Nat) : List UInt8 :=
  [69, 0, u8 ((20 + (n : Int)) / 256 % 256), u8 ((20 + (n : Int)) % 256), u8 (id / 256 % 256), u8 (id % 256), u8 (flagsP at_ wh mo / 256 % 256), u8 (flagsP at_ wh mo % 256), u8 life, u8 kind, 0, 0,
   u8 (f / 65536 / 256 % 256), u8 (f / 65536 % 256), u8 (f / 256 % 256), u8 (f % 256), u8 (t / 65536 / 256 % 256), u8 (t / 65536 % 256), u8 (t / 256 % 256), u8 (t % 256)]
def hdr1 (id at_ life kind : Int) (wh mo : Bool) (f t : Int) (n : Nat) : List UInt8 :=
  put2 (hdr0 id at_ life kind wh mo f t n) 10 ((65535 - rnd (words (hdr0 id at_ life kind wh mo f t n)) : Nat) : Int)
def ipBytes (id at_ life kind : Int) (wh mo : Bool) (f t : Int) (bs : List UInt8) : List UInt8 := hdr1 id at_ life kind wh mo f t bs.length ++ bs

set_option maxHeartbeats 8000000 in
set_option maxRecDepth 100000 in
theorem ipbuild_any (id at_ life kind : Int) (wh mo : Bool) (f t : Int) (D : Option Addr) (bs : List UInt8) (n c : Nat) (w : World) (hn : bs.length = n) (hs : Sl w D c bs) (h : rightP id at_ life kind) (hl : (n : Int) ≤ 65515) (f0 : 0 ≤ f) (f1 : f < 4294967296) (t0 : 0 ≤ t) (t1 : t < 4294967296) :
    Calls Try.prog 23 #[.agg (packet id at_ life kind wh mo f t D n c)] w fun e w' => ∃ X x, e = .returned (.tuple #[.slice X (20 + n) x, .int .i64 0]) ∧ Sl w' X x (ipBytes id at_ life kind wh mo f t bs) ∧ Below w.heap.size w w' := by
  have hb : Below w.heap.size w (w.alloc (.cells (packet id at_ life kind wh mo f t D n c) 33)) := (Below.refl _ _).alloc (Nat.le_refl _) _
  have hbx := blk_new w 33 (packet id at_ life kind wh mo f t D n c)
  have hs1 := hs.below hb
  have H := Lib.hid h
  obtain ⟨⟨a0, a1⟩, ⟨i0, i1⟩, ⟨l0, l1⟩, ⟨k0, k1⟩⟩ := h
  have HN := Lib.hid hn
  have HB0 := Lib.hid hb
  clear hn hs hb
  go_enter Try.func23, Try.ntmps23
  go_wp2_with fail
  have hG1 : w.heap.size < (w.alloc (.cells (packet id at_ life kind wh mo f t D n c) 33)).heap.size := by simp
  generalize w.alloc (.cells (packet id at_ life kind wh mo f t D n c) 33) = w1 at *
  refine (ipright_any id at_ life kind wh mo f t D n c _).mono ?_
  rw [decide_eq_true H.out]
  rintro e w2 ⟨rfl, hb2⟩
  replace hbx := hbx.below hb2 hbx.lt
  obtain ⟨x0, x1, x2, x3, x4, x5, x6, x7, x8⟩ := hbx.cells9
  go_wp2_with fail
  have hst : HB w1 w.heap.size w2.heap.size (packet id at_ life kind wh mo f t D n c) [69, 0, 0, 0, 0, 0, 0, 0, 0, 0, 0, 0, 0, 0, 0, 0, 0, 0, 0, 0] (w2.alloc (.cells #[.int .u8 69, .int .u8 0, .int .u8 0, .int .u8 0, .int .u8 0, .int .u8 0, .int .u8 0, .int .u8 0, .int .u8 0, .int .u8 0, .int .u8 0, .int .u8 0, .int .u8 0, .int .u8 0, .int .u8 0, .int .u8 0, .int .u8 0, .int .u8 0, .int .u8 0, .int .u8 0] 71)) :=
    ⟨row_of_blk (t := 71) (blk_new w2 71 #[.int .u8 69, .int .u8 0, .int .u8 0, .int .u8 0, .int .u8 0, .int .u8 0, .int .u8 0, .int .u8 0, .int .u8 0, .int .u8 0, .int .u8 0, .int .u8 0, .int .u8 0, .int .u8 0, .int .u8 0, .int .u8 0, .int .u8 0, .int .u8 0, .int .u8 0, .int .u8 0]) hb2.size rfl (by omega), blk_old hbx _, hb2.alloc (Nat.le_trans hb2.size (Nat.le_refl _)) _⟩
  clear x0 x1 x2 x3 x4 x5 x6 x7 x8 hbx hb2
  generalize w2.alloc (.cells #[.int .u8 69, .int .u8 0, .int .u8 0, .int .u8 0, .int .u8 0, .int .u8 0, .int .u8 0, .int .u8 0, .int .u8 0, .int .u8 0, .int .u8 0, .int .u8 0, .int .u8 0, .int .u8 0, .int .u8 0, .int .u8 0, .int .u8 0, .int .u8 0, .int .u8 0, .int .u8 0] 71) = w3 at *
  generalize w2.heap.size = G at *
  generalize hGB : w.heap.size = GB at *
  have HGB := Lib.hid hGB
  clear hGB
  have HS1 := Lib.hid hs1
  clear hs1
  have ws : IntKind.i64.wrap (20 + (n : Int)) = 20 + (n : Int) := IntWalk.i64_in _ (by omega)
  have HH0 : Hid (([69, 0, 0, 0, 0, 0, 0, 0, 0, 0, 0, 0, 0, 0, 0, 0, 0, 0, 0, 0] : List UInt8) = [69, 0, 0, 0, 0, 0, 0, 0, 0, 0, 0, 0, 0, 0, 0, 0, 0, 0, 0, 0]) := rfl
  obtain ⟨hd0, HE0⟩ : ∃ z : List UInt8, Hid (([69, 0, 0, 0, 0, 0, 0, 0, 0, 0, 0, 0, 0, 0, 0, 0, 0, 0, 0, 0] : List UInt8) = z) := ⟨_, rfl⟩
  have HL0 : Hid (hd0.length = 20) := by rw [← HE0.out]; rfl
  rw [HE0.out] at hst
  clear HH0
  go_region_held3 (fun w' => w'.cell? ⟨GB, 8, none⟩ = some (.slice D n c))
    (first | (with_reducible assumption) | (exact hst2.box.cell 8) | (exact hst1.box.cell 8) | (exact hst.box.cell 8))
    ((go_at_call 32
      refine (put16_any (off := 2) _ _ (hst.row.drawn ⟨1, rfl⟩) (by rw [HL0.out]; omega) (by omega) (by omega) (by omega)).mono ?_
      rintro e w4 ⟨rfl, hr4, hg4⟩
      have hst2 := (hst.drawn ⟨1, rfl⟩).wrote hG1 hr4 hg4
      clear hr4 hg4))
  clear hst
  have hst := hst2
  clear hst2
  obtain ⟨hd1, HE1⟩ : ∃ y, Hid (put2 hd0 2 (20 + (n : Int)) = y) := ⟨_, rfl⟩
  have HL1 : Hid (hd1.length = 20) := by rw [← HE1.out]; simp only [put2, List.length_set]; exact HL0.out
  rw [HE1.out] at hst
  go_wp2_with fail
  clear ws
  go_region_held3 (fun w' => w'.cell? ⟨GB, 0, none⟩ = some (.int .i64 id))
    (first | (with_reducible assumption) | (exact hst2.box.cell 0) | (exact hst1.box.cell 0) | (exact hst.box.cell 0))
    ((go_at_call 32
      refine (put16_any (off := 4) _ _ (hst.row.drawn ⟨1, rfl⟩) (by rw [HL1.out]; omega) (by omega) (by omega) (by omega)).mono ?_
      rintro e w4 ⟨rfl, hr4, hg4⟩
      have hst2 := (hst.drawn ⟨1, rfl⟩).wrote hG1 hr4 hg4
      clear hr4 hg4))
  clear hst
  have hst := hst2
  clear hst2
  obtain ⟨hd2, HE2⟩ : ∃ y, Hid (put2 hd1 4 (id) = y) := ⟨_, rfl⟩
  have HL2 : Hid (hd2.length = 20) := by rw [← HE2.out]; simp only [put2, List.length_set]; exact HL1.out
  rw [HE2.out] at hst
  go_wp2_with fail
  have fl0 : 0 ≤ flagsP at_ wh mo := by unfold flagsP; split <;> split <;> omega
  have fl1 : flagsP at_ wh mo < 32768 := by unfold flagsP; split <;> split <;> omega
  obtain ⟨fl, EFL⟩ : ∃ z, Hid (flagsP at_ wh mo = z) := ⟨_, rfl⟩
  rw [EFL.out] at fl0 fl1
  go_region_held3 (fun w' => w'.cell? ⟨GB, 0, none⟩ = some (.int .i64 id) ∧ w'.cell? ⟨GB, 1, none⟩ = some (.int .i64 at_) ∧ w'.cell? ⟨GB, 2, none⟩ = some (.int .i64 life) ∧ w'.cell? ⟨GB, 3, none⟩ = some (.int .i64 kind) ∧ w'.cell? ⟨GB, 4, none⟩ = some (.bool wh) ∧ w'.cell? ⟨GB, 5, none⟩ = some (.bool mo) ∧ w'.cell? ⟨GB, 6, none⟩ = some (.int .u32 f) ∧ w'.cell? ⟨GB, 7, none⟩ = some (.int .u32 t) ∧ w'.cell? ⟨GB, 8, none⟩ = some (.slice D n c))
    ((refine ⟨?_, ?_, ?_, ?_, ?_, ?_, ?_, ?_, ?_⟩
      · first | (with_reducible assumption) | (exact hst2.box.cell 0) | (exact hst1.box.cell 0) | (exact hst.box.cell 0)
      · first | (with_reducible assumption) | (exact hst2.box.cell 1) | (exact hst1.box.cell 1) | (exact hst.box.cell 1)
      · first | (with_reducible assumption) | (exact hst2.box.cell 2) | (exact hst1.box.cell 2) | (exact hst.box.cell 2)
      · first | (with_reducible assumption) | (exact hst2.box.cell 3) | (exact hst1.box.cell 3) | (exact hst.box.cell 3)
      · first | (with_reducible assumption) | (exact hst2.box.cell 4) | (exact hst1.box.cell 4) | (exact hst.box.cell 4)
      · first | (with_reducible assumption) | (exact hst2.box.cell 5) | (exact hst1.box.cell 5) | (exact hst.box.cell 5)
      · first | (with_reducible assumption) | (exact hst2.box.cell 6) | (exact hst1.box.cell 6) | (exact hst.box.cell 6)
      · first | (with_reducible assumption) | (exact hst2.box.cell 7) | (exact hst1.box.cell 7) | (exact hst.box.cell 7)
      · first | (with_reducible assumption) | (exact hst2.box.cell 8) | (exact hst1.box.cell 8) | (exact hst.box.cell 8)))
    (first
      | (go_at_call 33
         refine (ipflags_any id at_ life kind wh mo f t D n c _ a0 a1).mono ?_
         rw [EFL.out]
         rintro e w4 ⟨rfl, hb4⟩
         have hst1 := (hst.drawn ⟨1, rfl⟩).below hb4
         clear hb4)
      | (go_at_call 32
         refine (put16_any (off := 6) _ _ hst1.row (by rw [HL2.out]; omega) (by omega) (by omega) (by omega)).mono ?_
         rintro e w5 ⟨rfl, hr4, hg4⟩
         have hst2 := hst1.wrote hG1 hr4 hg4
         clear hr4 hg4))
  clear hst1
  clear hst
  have hst := hst2
  clear hst2
  obtain ⟨hd3, HE3⟩ : ∃ y, Hid (put2 hd2 6 fl = y) := ⟨_, rfl⟩
  have HL3 : Hid (hd3.length = 20) := by rw [← HE3.out]; simp only [put2, List.length_set]; exact HL2.out
  rw [HE3.out] at hst
  go_wp2_with fail
  obtain ⟨_, _, b2, b3, _, _, _, _, _⟩ := hst.box.cells9
  have o8 := hst.row.cell 8 (by rw [HL3.out]; omega)
  have o9 := hst.row.cell 9 (by rw [HL3.out]; omega)
  have q8 := hst.row.free 8
  have q9 := hst.row.free 9
  have nG : GB ≠ G := by have := hst.row.lt; omega
  have nG' : G ≠ GB := by have := hst.row.lt; omega
  have HST := Lib.hid hst
  clear hst
  go_region
  have hst2 := ((HST.out.wrote hG1 ((HST.out.row.set 8 life (by omega) (by omega)).set 9 kind (by omega) (by omega)) ((grown_set G 8 _).trans (grown_set G 9 _)))).drew
  clear b2 b3 o8 o9 q8 q9 HST nG nG'
  have hst := trivial
  generalize World.drew _ = w5 at hst2 ⊢
  clear hst
  have hst := hst2
  clear hst2
  obtain ⟨hd4, HE4⟩ : ∃ y, Hid ((hd3.set 8 (u8 life)).set 9 (u8 kind) = y) := ⟨_, rfl⟩
  have HL4 : Hid (hd4.length = 20) := by rw [← HE4.out]; simp only [List.length_set]; exact HL3.out
  rw [HE4.out] at hst
  go_wp2_with fail
  go_region_held3 (fun w' => w'.cell? ⟨GB, 6, none⟩ = some (.int .u32 f))
    (first | (with_reducible assumption) | (exact hst2.box.cell 6) | (exact hst1.box.cell 6) | (exact hst.box.cell 6))
    ((go_at_call 34
      refine (put32_any (off := 12) _ _ (hst.row.drawn ⟨1, rfl⟩) (by rw [HL4.out]; omega) (by omega) (by omega) (by omega) (by omega)).mono ?_
      rintro e w4 ⟨rfl, hr4, hg4⟩
      have hst2 := (hst.drawn ⟨1, rfl⟩).wrote hG1 hr4 hg4
      clear hr4 hg4))
  clear hst
  have hst := hst2
  clear hst2
  obtain ⟨hd5, HE5⟩ : ∃ y, Hid (put2 (put2 hd4 12 (f / 65536)) 14 f = y) := ⟨_, rfl⟩
  have HL5 : Hid (hd5.length = 20) := by rw [← HE5.out]; simp only [put2, List.length_set]; exact HL4.out
  rw [HE5.out] at hst
  go_wp2_with fail
  go_region_held3 (fun w' => w'.cell? ⟨GB, 7, none⟩ = some (.int .u32 t))
    (first | (with_reducible assumption) | (exact hst2.box.cell 7) | (exact hst1.box.cell 7) | (exact hst.box.cell 7))
    ((go_at_call 34
      refine (put32_any (off := 16) _ _ (hst.row.drawn ⟨1, rfl⟩) (by rw [HL5.out]; omega) (by omega) (by omega) (by omega) (by omega)).mono ?_
      rintro e w4 ⟨rfl, hr4, hg4⟩
      have hst2 := (hst.drawn ⟨1, rfl⟩).wrote hG1 hr4 hg4
      clear hr4 hg4))
  clear hst
  have hst := hst2
  clear hst2
  obtain ⟨hd6, HE6⟩ : ∃ y, Hid (put2 (put2 hd5 16 (t / 65536)) 18 t = y) := ⟨_, rfl⟩
  have HL6 : Hid (hd6.length = 20) := by rw [← HE6.out]; simp only [put2, List.length_set]; exact HL5.out
  rw [HE6.out] at hst
  go_wp2_with fail
  obtain ⟨z, EZ⟩ : ∃ z : Int, Hid (((65535 - rnd (words hd6) : Nat) : Int) = z) := ⟨_, rfl⟩
  have zb := rnd_le (words hd6)
  have z0 : 0 ≤ z := by rw [← EZ.out]; omega
  have z1 : z < 65536 := by rw [← EZ.out]; omega
  have wz : IntKind.i64.wrap z = z := IntWalk.i64_in _ (by omega)
  clear zb
  go_region_held3 (fun _ => True)
    (exact trivial)
    (first
      | (go_at_call 35
         refine (of_n' _ hd6 20 20 _ HL6.out (hst.row.drawn ⟨1, rfl⟩).bs (by rw [HL6.out]; omega)).mono ?_
         rw [EZ.out]
         rintro e w4 ⟨rfl, hdr4⟩
         have hst1 := (hst.drawn ⟨1, rfl⟩).drawn hdr4
         clear hdr4)
      | (go_at_call 32
         refine (put16_any (off := 10) _ _ hst1.row (by rw [HL6.out]; omega) (by omega) (by omega) (by omega)).mono ?_
         rintro e w5 ⟨rfl, hr4, hg4⟩
         have hst2 := hst1.wrote hG1 hr4 hg4
         clear hr4 hg4))
  clear hst1 wz
  clear hst
  have hst := hst2
  clear hst2
  obtain ⟨hd7, HE7⟩ : ∃ y, Hid (put2 hd6 10 z = y) := ⟨_, rfl⟩
  have HL7 : Hid (hd7.length = 20) := by rw [← HE7.out]; simp only [put2, List.length_set]; exact HL6.out
  rw [HE7.out] at hst
  go_wp2_with fail
  have HE : Hid (hd7 ++ bs = ipBytes id at_ life kind wh mo f t bs) := by
    show _ = _
    rw [ipBytes, HN.out, hdr1]
    congr 1
    have e0 : hd6 = hdr0 id at_ life kind wh mo f t n := by
      rw [← HE6.out, ← HE5.out, ← HE4.out, ← HE3.out, ← HE2.out, ← HE1.out, ← HE0.out, ← EFL.out]
      rfl
    rw [← HE7.out, ← EZ.out, e0]
  have HST := Lib.hid hst
  go_region_held3 (fun w' => w'.cell? ⟨GB, 8, none⟩ = some (.slice D n c))
    (first | (with_reducible assumption) | (exact hst2.box.cell 8) | (exact hst1.box.cell 8) | (exact hst.box.cell 8))
    ((refine step_app_full _ (by rfl) _ _ (by rfl) G 20 hd7 (HST.out.row.drawn ⟨1, rfl⟩).bs HL7.out (by rfl) D c bs n HN.out (by rfl) ((HS1.out.below HST.out.bel).drawn ⟨1, rfl⟩) (by omega) ?_
      intro X x w6 hs6 hb6
      have hst2 := (HST.out.drawn ⟨1, rfl⟩).below hb6))
  rw [HE.out] at hs6
  have HF := Lib.hid hs6
  have HBF := Lib.hid (HB0.out.trans (hst2.bel.mono (Nat.le_of_lt hG1)))
  clear hs6 hb6 hst2 hst HST
  go_wp2_with fail
  go_ret2
  exact ⟨X, x, rfl, HF.out, by rw [HGB.out]; exact HBF.out⟩
end Go.Proofs.Ytpdkoooecnmjjaa
