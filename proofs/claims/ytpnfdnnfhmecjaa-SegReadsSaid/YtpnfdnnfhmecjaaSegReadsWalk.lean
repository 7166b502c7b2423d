/-
  The walk of the law SegReads.
-/
import Derived.Test.YtpnfdnnfhmecjaaSegJ
import Derived.Test.YtpnfdnnfhmecjaaSegWorks
import Derived.Test.YtpnfdnnfhmecjaaSegL
namespace Go.Proofs.Ytpnfdnnfhmecjaa
open Go.RowKit
set_option linter.unusedVariables false

set_option maxHeartbeats 4000000 in
set_option maxRecDepth 100000 in
theorem segReads_walk (f t : Int) (A : Option Addr) (bs : List UInt8) (n c : Nat) (w : World) (hn : bs.length = n) (hs : Sl w A c bs) (f0 : 0 ≤ f) (f1 : f < 4294967296) (t0 : 0 ≤ t) (t1 : t < 4294967296) :
    Calls Try.prog 4 #[.int .u32 f, .int .u32 t, .slice A n c] w fun e w' => e = .returned (.bool true) ∧ Below w.heap.size w w' := by
  have hcap := hs.2.1
  obtain ⟨m, em, em2, em3, em4⟩ : ∃ m : Nat, m = min n 500 ∧ (if (500 : Int) < (n : Int) then 500 else (n : Int)) = (m : Int) ∧ (m : Int) ≤ (c : Int) ∧ m ≤ n := ⟨_, rfl, by split <;> omega, by omega, by omega⟩
  obtain ⟨xs, EXS⟩ : ∃ z, Hid (bs.take 500 = z) := ⟨_, rfl⟩
  have EM : Hid (xs.length = m) := by show _ = _; rw [← EXS.out, List.length_take, em]; omega
  have HS : Hid (Sl w A c xs) := by rw [← EXS.out]; exact hs.take 500
  have MQ : Hid (m ≤ 500) := by show _ ≤ _; omega
  have RA := Lib.hid (fun (A : Option Addr) (c : Nat) (w : World) hs => segread_any f t A xs m c w EM.out hs (by have := MQ.out; omega) f0 f1 t0 t1)
  have RB := Lib.hid (fun (A : Option Addr) (c : Nat) (w : World) hs => refread_any f t A xs m c w EM.out hs (by have := MQ.out; omega) f0 f1 t0 t1)
  clear hs hn em hcap EXS f0 f1 t0 t1
  go_enter Try.func4, Try.ntmps4
  go_wp2_with fail
  clear em2 em3 em4
  refine (bytes_n A xs m c _ EM.out HS.out (by rw [EM.out]; have := MQ.out; omega)).mono ?_
  rintro e w1 ⟨X1, x1, rfl, ho, hb⟩
  rw [EM.out]
  have HB1 := Lib.hid hb
  have HO1 := Lib.hid ho.sl
  have HS1 := Lib.hid (HS.out.below hb)
  clear ho hb HS
  go_wp2_with fail
  refine (RA.out X1 x1 _ HO1.out).mono ?_
  rintro e w2 ⟨X2, x2, rfl, hs2, hb⟩
  obtain ⟨⟨a0, a1, a2, a3, a4, a5, a6, a7⟩, ES⟩ : ∃ s, Hid (rS f t xs = s) := ⟨_, rfl⟩
  obtain ⟨dd, ED⟩ : ∃ z, Hid (rD f t xs = z) := ⟨_, rfl⟩
  obtain ⟨dn, EDN⟩ : ∃ z, Hid (dd.length = z) := ⟨_, rfl⟩
  obtain ⟨ee, EE⟩ : ∃ z, Hid (rE f t xs = z) := ⟨_, rfl⟩
  rw [ED.out] at hs2
  rw [ES.out, ED.out, EDN.out, EE.out, show segS ⟨a0, a1, a2, a3, a4, a5, a6, a7⟩ X2 dn x2 = segV a0 a1 a2 a3 a4 a5 a6 a7 X2 dn x2 from rfl]
  have hba := (Below.refl w2.heap.size w2).alloc (Nat.le_refl _) (.cells (segV a0 a1 a2 a3 a4 a5 a6 a7 X2 dn x2) 26)
  have hb2 := HB1.out.trans (hb.mono HB1.out.size)
  have HB2 := Lib.hid (hb2.trans (hba.mono hb2.size))
  have HX2 := Lib.hid (blk_new w2 26 (segV a0 a1 a2 a3 a4 a5 a6 a7 X2 dn x2))
  have HD2 := Lib.hid (hs2.below hba)
  have HS2 := Lib.hid ((HS1.out.below hb).below hba)
  clear hs2 hb hba hb2 HB1 HO1 HS1
  go_wp2_with fail
  generalize w2.alloc (.cells (segV a0 a1 a2 a3 a4 a5 a6 a7 X2 dn x2) 26) = w3 at *
  generalize w2.heap.size = G at *
  refine (RB.out A c _ HS2.out).mono ?_
  rintro e w4 ⟨X4, x4, rfl, hs4, hb⟩
  rw [ED.out] at hs4
  rw [ES.out, ED.out, EDN.out, EE.out, show segS ⟨a0, a1, a2, a3, a4, a5, a6, a7⟩ X4 dn x4 = segV a0 a1 a2 a3 a4 a5 a6 a7 X4 dn x4 from rfl]
  have hba := (Below.refl w4.heap.size w4).alloc (Nat.le_refl _) (.cells (segV a0 a1 a2 a3 a4 a5 a6 a7 X4 dn x4) 32)
  have hb4 := HB2.out.trans (hb.mono HB2.out.size)
  have HB4 := Lib.hid (hb4.trans (hba.mono hb4.size))
  have HX4 := Lib.hid ((HX2.out.below hb HX2.out.lt).below hba (Nat.lt_of_lt_of_le HX2.out.lt hb.size))
  have HY4 := Lib.hid (blk_new w4 32 (segV a0 a1 a2 a3 a4 a5 a6 a7 X4 dn x4))
  have HD4 := Lib.hid ((HD2.out.below hb).below hba)
  have HE4 := Lib.hid (hs4.below hba)
  clear hs4 hb hba hb4 HB2 HX2 HD2 HS2 RA RB
  go_upto_region 4 with fail
  generalize w4.alloc (.cells (segV a0 a1 a2 a3 a4 a5 a6 a7 X4 dn x4) 32) = w5 at *
  generalize w4.heap.size = G4 at *
  obtain ⟨m0, m1, m2, m3, m4, m5, m6, m7, m8⟩ := HX4.out.cells9
  obtain ⟨r0, r1, r2, r3, r4, r5, r6, r7, r8⟩ := HY4.out.cells9
  go_region_held3 (fun w' => (w'.cell? ⟨G, 0, none⟩ = some (.int .i64 a0) ∧ w'.cell? ⟨G, 1, none⟩ = some (.int .i64 a1) ∧ w'.cell? ⟨G, 2, none⟩ = some (.int .u32 a2) ∧ w'.cell? ⟨G, 3, none⟩ = some (.int .u32 a3) ∧ w'.cell? ⟨G, 4, none⟩ = some (.int .i64 a4) ∧ w'.cell? ⟨G, 5, none⟩ = some (.int .i64 a5) ∧ w'.cell? ⟨G, 6, none⟩ = some (.int .i64 a6) ∧ w'.cell? ⟨G, 7, none⟩ = some (.int .i64 a7) ∧ w'.cell? ⟨G, 8, none⟩ = some (.slice X2 dn x2)) ∧ (w'.cell? ⟨G4, 0, none⟩ = some (.int .i64 a0) ∧ w'.cell? ⟨G4, 1, none⟩ = some (.int .i64 a1) ∧ w'.cell? ⟨G4, 2, none⟩ = some (.int .u32 a2) ∧ w'.cell? ⟨G4, 3, none⟩ = some (.int .u32 a3) ∧ w'.cell? ⟨G4, 4, none⟩ = some (.int .i64 a4) ∧ w'.cell? ⟨G4, 5, none⟩ = some (.int .i64 a5) ∧ w'.cell? ⟨G4, 6, none⟩ = some (.int .i64 a6) ∧ w'.cell? ⟨G4, 7, none⟩ = some (.int .i64 a7) ∧ w'.cell? ⟨G4, 8, none⟩ = some (.slice X4 dn x4)))
    (first | (with_reducible assumption) | (refine ⟨⟨?_, ?_, ?_, ?_, ?_, ?_, ?_, ?_, ?_⟩, ?_, ?_, ?_, ?_, ?_, ?_, ?_, ?_, ?_⟩ <;> (with_reducible assumption)) | (exact ⟨HX9.out.cells9, HY9.out.cells9⟩) | (exact ⟨HX8.out.cells9, HY8.out.cells9⟩) | (exact ⟨HX7.out.cells9, HY7.out.cells9⟩) | (exact ⟨HX4.out.cells9, HY4.out.cells9⟩))
    (first
      | (go_at_call 11
         refine (plain_any a0 a1 a2 a3 a4 a5 a6 a7 _ dn _ _).mono ?_
         rintro e w7 ⟨rfl, hb⟩
         have HX7 := Lib.hid (HX4.out.below (below_dr hb) HX4.out.lt)
         have HY7 := Lib.hid (HY4.out.below (below_dr hb) HY4.out.lt)
         have HD7 := Lib.hid (HD4.out.below (below_dr hb))
         have HE7 := Lib.hid (HE4.out.below (below_dr hb))
         have HB7 := Lib.hid (HB4.out.trans ((below_dr hb).mono HB4.out.size))
         clear hb)
      | (go_at_call 17
         refine (sames_any a0 a1 a2 a3 a4 a5 a6 a7 X2 X4 dd dn x2 x4 _ EDN.out HD7.out HE7.out).mono ?_
         rintro e w8 ⟨rfl, hb⟩
         have HX8 := Lib.hid (HX7.out.below hb HX7.out.lt)
         have HY8 := Lib.hid (HY7.out.below hb HY7.out.lt)
         have HB8 := Lib.hid (HB7.out.trans (hb.mono HB7.out.size))
         clear hb)
      | (go_at_call 13
         refine (works_any _).mono ?_
         rintro e w9 ⟨rfl, hb⟩
         have HX9 := Lib.hid (HX8.out.below hb HX8.out.lt)
         have HY9 := Lib.hid (HY8.out.below hb HY8.out.lt)
         have HB9 := Lib.hid (HB8.out.trans (hb.mono HB8.out.size))
         clear hb))
  all_goals
    go_wp2_with fail
    go_ret
    exact ⟨by simp, HB9.out⟩
end Go.Proofs.Ytpnfdnnfhmecjaa
