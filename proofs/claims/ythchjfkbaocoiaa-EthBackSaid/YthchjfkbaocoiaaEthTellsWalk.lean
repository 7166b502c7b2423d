/-
  The walk of the law EthTells.
-/
import Derived.Test.YthchjfkbaocoiaaEthWorks
import Derived.Deep.RegionHeld3
namespace Go.Proofs.Ythchjfkbaocoiaa
open Go.RowKit
set_option linter.unusedVariables false

theorem six {m : List UInt8} (h : m.length = 6) : ∃ a b c d e f, m = [a, b, c, d, e, f] := by
  match m, h with
  | [a, b, c, d, e, f], _ => exact ⟨a, b, c, d, e, f, rfl⟩
theorem macv_255 : macv all255 = #[.int .u8 255, .int .u8 255, .int .u8 255, .int .u8 255, .int .u8 255, .int .u8 255] := rfl
/-- Four addresses in boxes of their own. -/
structure Boxes (w0 : World) (g1 g2 g3 g4 : Nat) (c1 c2 c3 c4 : Array Value) (w : World) : Prop where
  b0 : Blk w g1 23 c1
  b1 : Blk w g2 23 c2
  b2 : Blk w g3 23 c3
  b3 : Blk w g4 23 c4
  bel : Below w0.heap.size w0 w
theorem Boxes.below {w0 w w' : World} {g1 g2 g3 g4 : Nat} {c1 c2 c3 c4 : Array Value} (h : Boxes w0 g1 g2 g3 g4 c1 c2 c3 c4 w) (hb : Below w.heap.size w w') : Boxes w0 g1 g2 g3 g4 c1 c2 c3 c4 w' :=
  ⟨h.b0.below hb h.b0.lt, h.b1.below hb h.b1.lt, h.b2.below hb h.b2.lt, h.b3.below hb h.b3.lt, h.bel.trans (hb.mono h.bel.size)⟩

set_option maxHeartbeats 8000000 in
set_option maxRecDepth 100000 in
theorem ethTells_walk (me to_ : List UInt8) (s : ByteArray) (w : World) (hm : me.length = 6) (ht : to_.length = 6) (hs : s.size ≤ 9223372036854775807) :
    Calls Try.prog 4 #[.agg (macv me), .agg (macv to_), .string s] w fun e w' => e = .returned (.bool true) ∧ Below w.heap.size w w' := by
  obtain ⟨a0, a1, a2, a3, a4, a5, rfl⟩ := six hm
  obtain ⟨b0, b1, b2, b3, b4, b5, rfl⟩ := six ht
  have X12 := fun W => mine_any [a0, a1, a2, a3, a4, a5] [b0, b1, b2, b3, b4, b5] W rfl rfl
  have X13 := fun W => rmine_any [a0, a1, a2, a3, a4, a5] [b0, b1, b2, b3, b4, b5] W rfl rfl
  have X14 := fun W => group_any [b0, b1, b2, b3, b4, b5] W rfl
  have X15 := fun W => rgroup_any [b0, b1, b2, b3, b4, b5] W rfl
  have X10 := fun W => text_any [b0, b1, b2, b3, b4, b5] W rfl
  have X18 := fun W => rtext_any [b0, b1, b2, b3, b4, b5] W rfl
  have hqe := mac_eq all255 all255 rfl rfl
  rw [show (all255 == all255) = true from by decide] at hqe
  have X16 := everybody_any
  have X17 := reverybody_any
  simp only [macv_255] at hqe X16 X17
  have C8 := Lib.hid works_any
  have hg := mac_guard
  obtain ⟨q1, E1⟩ : ∃ z, Hid (mineB [a0, a1, a2, a3, a4, a5] [b0, b1, b2, b3, b4, b5] = z) := ⟨_, rfl⟩
  obtain ⟨q2, E2⟩ : ∃ z, Hid (groupB [b0, b1, b2, b3, b4, b5] = z) := ⟨_, rfl⟩
  obtain ⟨q3, E3⟩ : ∃ z : ByteArray, Hid ((⟨(text [b0, b1, b2, b3, b4, b5]).toArray⟩ : ByteArray) = z) := ⟨_, rfl⟩
  simp only [E1.out] at X12 X13
  simp only [E2.out] at X14 X15
  simp only [E3.out] at X10 X18
  unfold macv at X12 X13 X14 X15 X10 X18 ⊢
  simp only [List.map_cons, List.map_nil, bval] at X12 X13 X14 X15 X10 X18 ⊢
  have C12 := Lib.hid X12
  have C13 := Lib.hid X13
  have C14 := Lib.hid X14
  have C15 := Lib.hid X15
  have C10 := Lib.hid X10
  have C18 := Lib.hid X18
  have C16 := Lib.hid X16
  have C17 := Lib.hid X17
  clear X12 X13 X14 X15 X10 X18 X16 X17
  go_enter Try.func4, Try.ntmps4
  go_wp2_with fail
  have hsz : (s.extract 0 (min (s.size : Int) 40).toNat).size ≤ 9223372036854775807 := by rw [ByteArray.size_extract]; omega
  generalize s.extract 0 (min (s.size : Int) 40).toNat = S at *
  have P1 := Lib.hid (fun W => parse_any S W hsz)
  have P2 := Lib.hid (fun W => rparse_any S W hsz)
  refine (P1.out _).mono ?_
  rintro e w1 ⟨rfl, hb1⟩
  obtain ⟨pe, EE⟩ : ∃ z, Hid (parseE S.data.toList = z) := ⟨_, rfl⟩
  obtain ⟨pm, EM⟩ : ∃ z, Hid (parseM S.data.toList = z) := ⟨_, rfl⟩
  have pl : pm.length = 6 := by rw [← EM.out]; exact mac_length _
  have hqp := mac_eq pm pm pl pl
  rw [show (pm == pm) = true from by simp] at hqp
  rw [EE.out, EM.out]
  obtain ⟨p0, p1, p2, p3, p4, p5, rfl⟩ := six pl
  unfold macv at hqp ⊢
  simp only [List.map_cons, List.map_nil, bval] at hqp ⊢
  have hb0 : Below w.heap.size w ((w.alloc (.cells #[.int .u8 (a0.toNat : Int), .int .u8 (a1.toNat : Int), .int .u8 (a2.toNat : Int), .int .u8 (a3.toNat : Int), .int .u8 (a4.toNat : Int), .int .u8 (a5.toNat : Int)] 23)).alloc (.cells #[.int .u8 (b0.toNat : Int), .int .u8 (b1.toNat : Int), .int .u8 (b2.toNat : Int), .int .u8 (b3.toNat : Int), .int .u8 (b4.toNat : Int), .int .u8 (b5.toNat : Int)] 23)) := ((Below.refl _ _).alloc (Nat.le_refl _) _).alloc (by simp) _
  have k1 := blk_old (blk_new w 23 #[.int .u8 (a0.toNat : Int), .int .u8 (a1.toNat : Int), .int .u8 (a2.toNat : Int), .int .u8 (a3.toNat : Int), .int .u8 (a4.toNat : Int), .int .u8 (a5.toNat : Int)]) (.cells #[.int .u8 (b0.toNat : Int), .int .u8 (b1.toNat : Int), .int .u8 (b2.toNat : Int), .int .u8 (b3.toNat : Int), .int .u8 (b4.toNat : Int), .int .u8 (b5.toNat : Int)] 23)
  have k2 := blk_new (w.alloc (.cells #[.int .u8 (a0.toNat : Int), .int .u8 (a1.toNat : Int), .int .u8 (a2.toNat : Int), .int .u8 (a3.toNat : Int), .int .u8 (a4.toNat : Int), .int .u8 (a5.toNat : Int)] 23)) 23 #[.int .u8 (b0.toNat : Int), .int .u8 (b1.toNat : Int), .int .u8 (b2.toNat : Int), .int .u8 (b3.toNat : Int), .int .u8 (b4.toNat : Int), .int .u8 (b5.toNat : Int)]
  rw [show (w.alloc (.cells #[.int .u8 (a0.toNat : Int), .int .u8 (a1.toNat : Int), .int .u8 (a2.toNat : Int), .int .u8 (a3.toNat : Int), .int .u8 (a4.toNat : Int), .int .u8 (a5.toNat : Int)] 23)).heap.size = w.heap.size + 1 by simp] at k2
  replace k1 := blk_old (k1.below hb1 k1.lt) (.cells #[.int .u8 (p0.toNat : Int), .int .u8 (p1.toNat : Int), .int .u8 (p2.toNat : Int), .int .u8 (p3.toNat : Int), .int .u8 (p4.toNat : Int), .int .u8 (p5.toNat : Int)] 23)
  replace k2 := blk_old (k2.below hb1 k2.lt) (.cells #[.int .u8 (p0.toNat : Int), .int .u8 (p1.toNat : Int), .int .u8 (p2.toNat : Int), .int .u8 (p3.toNat : Int), .int .u8 (p4.toNat : Int), .int .u8 (p5.toNat : Int)] 23)
  have k3 := blk_new w1 23 #[.int .u8 (p0.toNat : Int), .int .u8 (p1.toNat : Int), .int .u8 (p2.toNat : Int), .int .u8 (p3.toNat : Int), .int .u8 (p4.toNat : Int), .int .u8 (p5.toNat : Int)]
  have kb := (hb0.trans (hb1.mono hb0.size)).alloc (by have := hb0.size; have := hb1.size; omega) (.cells #[.int .u8 (p0.toNat : Int), .int .u8 (p1.toNat : Int), .int .u8 (p2.toNat : Int), .int .u8 (p3.toNat : Int), .int .u8 (p4.toNat : Int), .int .u8 (p5.toNat : Int)] 23)
  have K1 := Lib.hid k1
  have K2 := Lib.hid k2
  have K3 := Lib.hid k3
  have KB := Lib.hid kb
  clear hb0 hb1 k1 k2 k3 kb
  go_wp2_with fail
  refine (P2.out _).mono ?_
  rintro e w2 ⟨rfl, hb2⟩
  rw [EE.out, EM.out]
  unfold macv
  simp only [List.map_cons, List.map_nil, bval]
  have hst : Boxes w w.heap.size (w.heap.size + 1) w1.heap.size w2.heap.size #[.int .u8 (a0.toNat : Int), .int .u8 (a1.toNat : Int), .int .u8 (a2.toNat : Int), .int .u8 (a3.toNat : Int), .int .u8 (a4.toNat : Int), .int .u8 (a5.toNat : Int)] #[.int .u8 (b0.toNat : Int), .int .u8 (b1.toNat : Int), .int .u8 (b2.toNat : Int), .int .u8 (b3.toNat : Int), .int .u8 (b4.toNat : Int), .int .u8 (b5.toNat : Int)] #[.int .u8 (p0.toNat : Int), .int .u8 (p1.toNat : Int), .int .u8 (p2.toNat : Int), .int .u8 (p3.toNat : Int), .int .u8 (p4.toNat : Int), .int .u8 (p5.toNat : Int)] #[.int .u8 (p0.toNat : Int), .int .u8 (p1.toNat : Int), .int .u8 (p2.toNat : Int), .int .u8 (p3.toNat : Int), .int .u8 (p4.toNat : Int), .int .u8 (p5.toNat : Int)] (w2.alloc (.cells #[.int .u8 (p0.toNat : Int), .int .u8 (p1.toNat : Int), .int .u8 (p2.toNat : Int), .int .u8 (p3.toNat : Int), .int .u8 (p4.toNat : Int), .int .u8 (p5.toNat : Int)] 23)) :=
    ⟨blk_old (K1.out.below hb2 K1.out.lt) _, blk_old (K2.out.below hb2 K2.out.lt) _, blk_old (K3.out.below hb2 K3.out.lt) _, blk_new _ _ _, (KB.out.trans (hb2.mono KB.out.size)).alloc (by have := KB.out.size; have := hb2.size; omega) _⟩
  have HST := Lib.hid hst
  clear hst K1 K2 K3 KB hb2
  go_wp2_with fail
  generalize w2.alloc (.cells #[.int .u8 (p0.toNat : Int), .int .u8 (p1.toNat : Int), .int .u8 (p2.toNat : Int), .int .u8 (p3.toNat : Int), .int .u8 (p4.toNat : Int), .int .u8 (p5.toNat : Int)] 23) = w3 at *
  generalize w1.heap.size = G3 at *
  generalize w2.heap.size = G4 at *
  go_region_held3 (fun w' => w'.cell? ⟨w.heap.size, 0, none⟩ = some (.int .u8 (a0.toNat : Int)) ∧ w'.cell? ⟨w.heap.size, 1, none⟩ = some (.int .u8 (a1.toNat : Int)) ∧ w'.cell? ⟨w.heap.size, 2, none⟩ = some (.int .u8 (a2.toNat : Int)) ∧ w'.cell? ⟨w.heap.size, 3, none⟩ = some (.int .u8 (a3.toNat : Int)) ∧ w'.cell? ⟨w.heap.size, 4, none⟩ = some (.int .u8 (a4.toNat : Int)) ∧ w'.cell? ⟨w.heap.size, 5, none⟩ = some (.int .u8 (a5.toNat : Int)) ∧ w'.cell? ⟨w.heap.size + 1, 0, none⟩ = some (.int .u8 (b0.toNat : Int)) ∧ w'.cell? ⟨w.heap.size + 1, 1, none⟩ = some (.int .u8 (b1.toNat : Int)) ∧ w'.cell? ⟨w.heap.size + 1, 2, none⟩ = some (.int .u8 (b2.toNat : Int)) ∧ w'.cell? ⟨w.heap.size + 1, 3, none⟩ = some (.int .u8 (b3.toNat : Int)) ∧ w'.cell? ⟨w.heap.size + 1, 4, none⟩ = some (.int .u8 (b4.toNat : Int)) ∧ w'.cell? ⟨w.heap.size + 1, 5, none⟩ = some (.int .u8 (b5.toNat : Int)) ∧ w'.cell? ⟨G3, 0, none⟩ = some (.int .u8 (p0.toNat : Int)) ∧ w'.cell? ⟨G3, 1, none⟩ = some (.int .u8 (p1.toNat : Int)) ∧ w'.cell? ⟨G3, 2, none⟩ = some (.int .u8 (p2.toNat : Int)) ∧ w'.cell? ⟨G3, 3, none⟩ = some (.int .u8 (p3.toNat : Int)) ∧ w'.cell? ⟨G3, 4, none⟩ = some (.int .u8 (p4.toNat : Int)) ∧ w'.cell? ⟨G3, 5, none⟩ = some (.int .u8 (p5.toNat : Int)) ∧ w'.cell? ⟨G4, 0, none⟩ = some (.int .u8 (p0.toNat : Int)) ∧ w'.cell? ⟨G4, 1, none⟩ = some (.int .u8 (p1.toNat : Int)) ∧ w'.cell? ⟨G4, 2, none⟩ = some (.int .u8 (p2.toNat : Int)) ∧ w'.cell? ⟨G4, 3, none⟩ = some (.int .u8 (p3.toNat : Int)) ∧ w'.cell? ⟨G4, 4, none⟩ = some (.int .u8 (p4.toNat : Int)) ∧ w'.cell? ⟨G4, 5, none⟩ = some (.int .u8 (p5.toNat : Int)))
    ((refine ⟨?_, ?_, ?_, ?_, ?_, ?_, ?_, ?_, ?_, ?_, ?_, ?_, ?_, ?_, ?_, ?_, ?_, ?_, ?_, ?_, ?_, ?_, ?_, ?_⟩
      · exact HST.out.b0.cell 0
      · exact HST.out.b0.cell 1
      · exact HST.out.b0.cell 2
      · exact HST.out.b0.cell 3
      · exact HST.out.b0.cell 4
      · exact HST.out.b0.cell 5
      · exact HST.out.b1.cell 0
      · exact HST.out.b1.cell 1
      · exact HST.out.b1.cell 2
      · exact HST.out.b1.cell 3
      · exact HST.out.b1.cell 4
      · exact HST.out.b1.cell 5
      · exact HST.out.b2.cell 0
      · exact HST.out.b2.cell 1
      · exact HST.out.b2.cell 2
      · exact HST.out.b2.cell 3
      · exact HST.out.b2.cell 4
      · exact HST.out.b2.cell 5
      · exact HST.out.b3.cell 0
      · exact HST.out.b3.cell 1
      · exact HST.out.b3.cell 2
      · exact HST.out.b3.cell 3
      · exact HST.out.b3.cell 4
      · exact HST.out.b3.cell 5))
    (first
      | (go_at_call 12
         refine (C12.out _).mono ?_
         rintro e w4 ⟨rfl, hb4⟩
         first | (replace HST := Lib.hid (HST.out.below hb4)) | (replace HST := Lib.hid ((HST.out.below (Drawn.below ⟨1, rfl⟩ _)).below hb4))
         clear hb4)
      | (go_at_call 13
         refine (C13.out _).mono ?_
         rintro e w4 ⟨rfl, hb4⟩
         first | (replace HST := Lib.hid (HST.out.below hb4)) | (replace HST := Lib.hid ((HST.out.below (Drawn.below ⟨1, rfl⟩ _)).below hb4))
         clear hb4)
      | (go_at_call 14
         refine (C14.out _).mono ?_
         rintro e w4 ⟨rfl, hb4⟩
         first | (replace HST := Lib.hid (HST.out.below hb4)) | (replace HST := Lib.hid ((HST.out.below (Drawn.below ⟨1, rfl⟩ _)).below hb4))
         clear hb4)
      | (go_at_call 15
         refine (C15.out _).mono ?_
         rintro e w4 ⟨rfl, hb4⟩
         first | (replace HST := Lib.hid (HST.out.below hb4)) | (replace HST := Lib.hid ((HST.out.below (Drawn.below ⟨1, rfl⟩ _)).below hb4))
         clear hb4)
      | (go_at_call 16
         refine (C16.out _).mono ?_
         rintro e w4 ⟨rfl, hb4⟩
         first | (replace HST := Lib.hid (HST.out.below hb4)) | (replace HST := Lib.hid ((HST.out.below (Drawn.below ⟨1, rfl⟩ _)).below hb4))
         clear hb4)
      | (go_at_call 17
         refine (C17.out _).mono ?_
         rintro e w4 ⟨rfl, hb4⟩
         first | (replace HST := Lib.hid (HST.out.below hb4)) | (replace HST := Lib.hid ((HST.out.below (Drawn.below ⟨1, rfl⟩ _)).below hb4))
         clear hb4)
      | (go_at_call 10
         refine (C10.out _).mono ?_
         rintro e w4 ⟨rfl, hb4⟩
         first | (replace HST := Lib.hid (HST.out.below hb4)) | (replace HST := Lib.hid ((HST.out.below (Drawn.below ⟨1, rfl⟩ _)).below hb4))
         clear hb4)
      | (go_at_call 18
         refine (C18.out _).mono ?_
         rintro e w4 ⟨rfl, hb4⟩
         first | (replace HST := Lib.hid (HST.out.below hb4)) | (replace HST := Lib.hid ((HST.out.below (Drawn.below ⟨1, rfl⟩ _)).below hb4))
         clear hb4)
      | (go_at_call 8
         refine (C8.out _).mono ?_
         rintro e w4 ⟨rfl, hb4⟩
         first | (replace HST := Lib.hid (HST.out.below hb4)) | (replace HST := Lib.hid ((HST.out.below (Drawn.below ⟨1, rfl⟩ _)).below hb4))
         clear hb4))
  go_wp2_with fail
  go_ret
  exact ⟨by simp, HST.out.bel⟩
end Go.Proofs.Ythchjfkbaocoiaa
