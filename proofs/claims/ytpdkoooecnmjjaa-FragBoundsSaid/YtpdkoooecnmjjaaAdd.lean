/-
  The walks of sum.Add, Fold, Of, Right, Turn and of the reference's.
-/
import Derived.Test.YtpdkoooecnmjjaaRound
import Derived.Test.YtpdkoooecnmjjaaBytes
import Derived.Deep.QuietTactic
import Derived.BigQuiet
import Derived.Lib.Hide
import Derived.Deep.Draws
namespace Go.Proofs.Ytpdkoooecnmjjaa
open Go.RowKit

theorem take2 (bs : List UInt8) (k : Nat) (h : 2 * k + 1 < bs.length) : bs.take (2 * (k + 1)) = bs.take (2 * k) ++ [bs.getD (2 * k) 0, bs.getD (2 * k + 1) 0] := by
  have e : 2 * (k + 1) = 2 * k + 1 + 1 := by omega
  rw [e, List.take_succ_eq_append_getElem (by omega), List.take_succ_eq_append_getElem (by omega)]
  simp only [List.append_assoc, List.getD_eq_getElem?_getD, List.getElem?_eq_getElem (show 2 * k < bs.length by omega), List.getElem?_eq_getElem h]
  rfl

theorem add_step (p : Nat) (bs : List UInt8) (k : Nat) (h : 2 * k + 1 < bs.length) :
    rnd (rnd (p + words (bs.take (2 * k))) + 256 * (bs.getD (2 * k) 0).toNat + (bs.getD (2 * k + 1) 0).toNat) = rnd (p + words (bs.take (2 * (k + 1)))) := by
  rw [take2 bs k h, words_snoc2 _ _ _ (by rw [List.length_take]; omega), Nat.add_assoc, rnd_add, Nat.add_assoc]

theorem add_last (p : Nat) (bs : List UInt8) (k : Nat) (h : 2 * k + 1 = bs.length) :
    rnd (rnd (p + words (bs.take (2 * k))) + 256 * (bs.getD (2 * k) 0).toNat) = rnd (p + words bs) := by
  have e : bs = bs.take (2 * k) ++ [bs.getD (2 * k) 0] := by
    conv => lhs; rw [← List.take_append_drop (2 * k) bs]
    congr 1
    rw [List.drop_eq_getElem_cons (by omega), List.drop_eq_nil_of_le (by omega)]
    simp [List.getD_eq_getElem?_getD, List.getElem?_eq_getElem (show 2 * k < bs.length by omega)]
  conv => rhs; rw [e]
  rw [words_snoc1 _ _ (by rw [List.length_take]; omega), rnd_add, Nat.add_assoc]

set_option maxHeartbeats 1000000 in
set_option maxRecDepth 100000 in
theorem add_any (p : Int) (h0 : 0 ≤ p) (h1 : p < 4294967296) (A : Option Addr) (bs : List UInt8) (c : Nat) (w : World) (hb : Bs w A bs) (hl : bs.length ≤ 9223372036854775807) :
    Calls Try.prog 37 #[.int .u32 p, .slice A bs.length c] w fun e w' => e = .returned (.int .u32 (rnd (p.toNat + words bs) : Nat)) ∧ Drawn w w' := by
  go_enter Try.func37, Try.ntmps37
  go_wp2_with (go_at_call 38; refine (round_any _ (by omega) (by omega) _).mono ?_; rintro e w' ⟨rfl, rfl⟩)
  go_loopw [5, 12] (fun n i wr => ∃ k : Nat, k ≤ bs.length / 2 ∧ i = .int .i64 k ∧ n = .int .u32 (rnd (p.toNat + words (bs.take (2 * k))) : Nat) ∧ Drawn w wr) (fun _ i _ => bs.length - (intOf i).toNat)
  case atStart => exact ⟨0, Nat.zero_le _, rfl, by simp [words], Drawn.refl _⟩
  case round =>
    obtain ⟨k, hk, rfl, rfl, hd⟩ := hrel
    have hb := hb.drawn hd
    by_cases hlt : k < bs.length / 2
    · obtain ⟨b, off, rfl, hc⟩ := hb.at_ (by omega)
      have c0 := hc (2 * k) (by omega)
      have c1 := hc (2 * k + 1) (by omega)
      have HS := Lib.hid (add_step p.toNat bs k (by omega))
      have r0 := rnd_le (p.toNat + words (bs.take (2 * k)))
      clear hc hb
      generalize hx : bs.getD (2 * k) 0 = x at *
      generalize hy : bs.getD (2 * k + 1) 0 = y at *
      generalize hr : rnd (p.toNat + words (bs.take (2 * k))) = r at *
      clear hx hy hr
      have hx := x.toNat_lt
      have hy := y.toNat_lt
      have e0 : (2 * (k : Int)) < (bs.length : Int) := by omega
      have e1 : (2 * (k : Int)) + 1 < (bs.length : Int) := by omega
      go_wp2_with fail
      go_quiet ((go_at_call 38; exact Calls.quiet_of_same ((round_any _ (by omega) (by omega) _).mono fun _ _ h => ⟨h.1, h.2.symm⟩)))
      go_wp2
      go_roundw
      case rel => exact ⟨k + 1, by omega, by go_num, val_int (by rw [← HS.out, show (↑r + ↑x.toNat * 256 + ↑y.toNat : Int).toNat = r + 256 * x.toNat + y.toNat by omega]), hd.more _⟩
      case measure => simp [intOf]; omega
    · have hkk : k = bs.length / 2 := by omega
      by_cases hodd : bs.length % 2 = 1
      · obtain ⟨b, off, rfl, hc⟩ := hb.at_ (by omega)
        have c0 := hc (bs.length - 1) (by omega)
        have HS := add_last p.toNat bs k (by omega)
        rw [show 2 * k = bs.length - 1 by omega] at HS
        replace HS := Lib.hid HS
        have r0 := rnd_le (p.toNat + words (bs.take (2 * k)))
        rw [show 2 * k = bs.length - 1 by omega] at r0 
        clear hc hb
        have hx := (bs.getD (bs.length - 1) 0).toNat_lt
        have ho : ((bs.length : Int) % 2 == 1) = true := by simp; omega
        rw [show 2 * k = bs.length - 1 by omega]
        clear hkk
        generalize bs.getD (bs.length - 1) 0 = x at *
        generalize rnd (p.toNat + words (bs.take (bs.length - 1))) = r at *
        go_wp2_with fail
        refine (round_any _ (by omega) (by omega) _).mono ?_
        rintro e w' ⟨rfl, rfl⟩
        go_wp2
        go_ret
        exact ⟨ret_int (by rw [← HS.out, show (↑r + ↑x.toNat * 256 : Int).toNat = r + 256 * x.toNat by omega]), hd⟩
      · have ho : ((bs.length : Int) % 2 == 1) = false := by simp; omega
        have e2 : bs.take (2 * k) = bs := List.take_of_length_le (by omega)
        rw [e2]
        clear hkk e2
        go_wp2
        go_ret
        exact ⟨rfl, hd⟩
end Go.Proofs.Ytpdkoooecnmjjaa
