/-
  The walks of seg.get16, get32 and of the reference's num.
-/
import Derived.Test.YtpnfdnnfhmecjaaSegB
import Derived.Deep.DeepCutAuto
namespace Go.Proofs.Ytpnfdnnfhmecjaa
open Go.RowKit
set_option linter.unusedVariables false

theorem get2_int (bs : List UInt8) (k : Nat) : ((get2 bs k : Nat) : Int) = ((bs.getD k 0).toNat : Int) * 256 + ((bs.getD (k + 1) 0).toNat : Int) := by unfold get2; omega
theorem bs_two {w : World} {b off : Nat} {bs : List UInt8} (h : Bs w (some ⟨b, off, none⟩) bs) (k o : Nat) (ho : o = off + k) (hk : k + 1 < bs.length) :
    w.cell? ⟨b, o, none⟩ = some (.int .u8 ((bs.getD k 0).toNat : Int)) ∧ w.cell? ⟨b, o + 1, none⟩ = some (.int .u8 ((bs.getD (k + 1) 0).toNat : Int)) := by
  obtain ⟨b', off', e, hc⟩ := h.at_ (by omega)
  injection e with e
  injection e with e1 e2
  subst e1 e2 ho
  exact ⟨hc k (by omega), by have := hc (k + 1) hk; rwa [← Nat.add_assoc] at this⟩

theorem get16_n {b off : Nat} (k o n c : Nat) {bs : List UInt8} (w : World) (h : Bs w (some ⟨b, off, none⟩) bs) (ho : o = off + k) (hk : k + 1 < bs.length) (hn : 2 ≤ (n : Int)) :
    Calls Try.prog 35 #[.slice (some ⟨b, o, none⟩) n c] w fun e w' => e = .returned (.int .i64 ((get2 bs k : Nat) : Int)) ∧ Drawn w w' := by
  obtain ⟨c0, c1⟩ := bs_two h k o ho hk
  have HG := Lib.hid (get2_int bs k)
  rw [HG.out]
  clear HG h ho
  generalize bs.getD k 0 = x at *
  generalize bs.getD (k + 1) 0 = y at *
  have hx := x.toNat_lt
  have hy := y.toNat_lt
  have i0 : 0 < n := by omega
  have i1 : (1 : Int) < (n : Int) := by omega
  have ob := Lib.hid (i64_or_bytes (x.toNat : Int) (y.toNat : Int) (by omega) (by omega) (by omega) (by omega))
  go_enter Try.func35, Try.ntmps35
  go_wp2_with fail
  go_quiet (fail)
  go_wp2_with fail
  go_ret
  exact ⟨ret_int ob.out, ⟨_, rfl⟩⟩
theorem num_n {b off : Nat} (k o n c : Nat) {bs : List UInt8} (w : World) (h : Bs w (some ⟨b, off, none⟩) bs) (ho : o = off + k) (hk : k + 1 < bs.length) (hn : 2 ≤ (n : Int)) :
    Calls Try.prog 38 #[.slice (some ⟨b, o, none⟩) n c] w fun e w' => e = .returned (.int .i64 ((get2 bs k : Nat) : Int)) ∧ Drawn w w' := by
  obtain ⟨c0, c1⟩ := bs_two h k o ho hk
  have HG := Lib.hid (get2_int bs k)
  rw [HG.out]
  clear HG h ho
  generalize bs.getD k 0 = x at *
  generalize bs.getD (k + 1) 0 = y at *
  have hx := x.toNat_lt
  have hy := y.toNat_lt
  have i0 : 0 < n := by omega
  have i1 : (1 : Int) < (n : Int) := by omega
  go_enter Try.func38, Try.ntmps38
  go_wp2_with fail
  go_quiet (fail)
  go_wp2_with fail
  go_ret
  exact ⟨ret_int (by omega), ⟨_, rfl⟩⟩
theorem get4_int (bs : List UInt8) (k : Nat) : ((get4 bs k : Nat) : Int) = ((get2 bs k : Nat) : Int) * 65536 + ((get2 bs (k + 2) : Nat) : Int) := by unfold get4; omega
theorem u32_or_words (a b : Nat) (ha : a < 65536) (hb : b < 65536) : bits .or .u32 ((a : Int) * 65536) (b : Int) = (a : Int) * 65536 + (b : Int) := by
  have e1 : (a : Int) * 65536 = ((a * 2 ^ 16 : Nat) : Int) := by omega
  rw [e1, u32_or_nat _ _ (by omega) (by omega), or_high a b 16 (by omega)]
  omega
set_option maxHeartbeats 2000000 in
theorem get32_n {b off : Nat} (k o n c : Nat) {bs : List UInt8} (w : World) (h : Bs w (some ⟨b, off, none⟩) bs) (ho : o = off + k) (hk : k + 3 < bs.length) (hn : 4 ≤ (n : Int)) (hc : (n : Int) ≤ c) :
    Calls Try.prog 36 #[.slice (some ⟨b, o, none⟩) n c] w fun e w' => e = .returned (.int .u32 ((get4 bs k : Nat) : Int)) ∧ Drawn w w' := by
  have HG := Lib.hid (get4_int bs k)
  rw [HG.out]
  clear HG
  have g0 := get2_bd bs k
  have g1 := get2_bd bs (k + 2)
  have H := Lib.hid h
  have HO := Lib.hid ho
  have i2 : (2 : Int) ≤ (n : Int) := by omega
  have i3 : ¬ c = 2 := by omega
  have ob := Lib.hid (u32_or_words (get2 bs k) (get2 bs (k + 2)) g0 g1)
  clear h ho
  obtain ⟨A1, E1⟩ : ∃ z, Hid (get2 bs k = z) := ⟨_, rfl⟩
  obtain ⟨A2, E2⟩ : ∃ z, Hid (get2 bs (k + 2) = z) := ⟨_, rfl⟩
  rw [E1.out] at g0 ob ⊢
  rw [E2.out] at g1 ob ⊢
  go_enter Try.func36, Try.ntmps36
  go_wp2_with fail
  go_region_held3 (fun w' => Bs w' (some ⟨b, off, none⟩) bs)
    (first | (with_reducible assumption) | (exact Bs.drawn H.out ⟨1, rfl⟩) | (exact Bs.drawn (by assumption) hd2) | (exact Bs.drawn (by assumption) hd))
    (first
      | (go_at_call 35
         (with_reducible refine (get16_n k o n c _ (by assumption) HO.out (by omega) (by omega)).mono ?_)
         rw [E1.out]
         rintro e w2 ⟨rfl, hd⟩)
      | (go_at_call 35
         (with_reducible refine (get16_n (k + 2) (o + 2) (n - 2) (c - 2) _ (by assumption) (by rw [HO.out]; omega) (by omega) (by omega)).mono ?_)
         rw [E2.out]
         rintro e w3 ⟨rfl, hd2⟩))
  go_wp2_with fail
  go_ret
  have e1 : IntKind.u32.wrap (A1 : Int) = (A1 : Int) := by simp [IntKind.wrap, IntKind.bits, IntKind.signed]; omega
  have e2 : IntKind.u32.wrap (A2 : Int) = (A2 : Int) := by simp [IntKind.wrap, IntKind.bits, IntKind.signed]; omega
  have e3 : IntKind.u32.wrap ((A1 : Int) * 65536) = (A1 : Int) * 65536 := by simp [IntKind.wrap, IntKind.bits, IntKind.signed]; omega
  exact ⟨ret_int (by rw [e1, e2, e3]; exact ob.out), ((show Drawn w w.drew from ⟨1, rfl⟩).trans hd).trans hd2⟩
end Go.Proofs.Ytpnfdnnfhmecjaa
