/-
  The walks of the reference's sums (round, Add, Fold).
-/
import Derived.Test.YtpnfdnnfhmecjaaSumFns
namespace Go.Proofs.Ytpnfdnnfhmecjaa
open Go.RowKit

theorem refround_any (n : Int) (h0 : 0 ≤ n) (h : n < 4294967296) (w : World) :
    Calls Try.prog 44 #[.int .u32 n] w fun e w' => e = .returned (.int .u32 (rnd n.toNat : Nat)) ∧ w = w' := by
  obtain ⟨n, rfl⟩ := Int.eq_ofNat_of_zero_le h0
  go_enter Try.func44, Try.ntmps44
  go_wp2
  go_rounds 4
  go_ret
  exact ⟨ret_int (by rw [Int.toNat_natCast, ← thrice n (by omega)]; unfold once; omega), rfl⟩

set_option maxHeartbeats 1000000 in
set_option maxRecDepth 100000 in
theorem refadd_any (p : Int) (h0 : 0 ≤ p) (h1 : p < 4294967296) (A : Option Addr) (bs : List UInt8) (c : Nat) (w : World) (hb : Bs w A bs) (hl : bs.length ≤ 9223372036854775800) :
    Calls Try.prog 30 #[.int .u32 p, .slice A bs.length c] w fun e w' => e = .returned (.int .u32 (rnd (p.toNat + words bs) : Nat)) ∧ w = w' := by
  go_enter Try.func30, Try.ntmps30
  go_wp2_with (go_at_call 44; refine (refround_any _ (by omega) (by omega) _).mono ?_; rintro e w' ⟨rfl, rfl⟩)
  go_loop [5, 6] (fun n i => ∃ k : Nat, 2 * k ≤ bs.length + 1 ∧ i = .int .i64 (2 * (k : Int)) ∧ n = .int .u32 (rnd (p.toNat + words (bs.take (2 * k))) : Nat)) (fun _ i => bs.length + 2 - (intOf i).toNat)
  case atStart => exact ⟨0, by omega, rfl, by simp [words]⟩
  case round =>
    obtain ⟨k, hk, rfl, rfl⟩ := hrel
    have r0 := rnd_le (p.toNat + words (bs.take (2 * k)))
    rcases Nat.lt_or_ge (2 * k + 1) bs.length with hlt | hge
    · obtain ⟨b, off, rfl, hc⟩ := hb.at_ (by omega)
      have c0 := hc (2 * k) (by omega)
      have c1 := hc (2 * k + 1) (by omega)
      have HS := Lib.hid (add_step p.toNat bs k (by omega))
      clear hc hb
      generalize hx : bs.getD (2 * k) 0 = x at *
      generalize hy : bs.getD (2 * k + 1) 0 = y at *
      generalize hr : rnd (p.toNat + words (bs.take (2 * k))) = r at *
      clear hx hy hr
      have hx := x.toNat_lt
      have hy := y.toNat_lt
      have e0 : (2 * (k : Int)) < (bs.length : Int) := by omega
      have e1 : (2 * (k : Int)) + 1 < (bs.length : Int) := by omega
      go_wp2_with (go_at_call 44; refine (refround_any _ (by omega) (by omega) _).mono ?_; rintro e w' ⟨rfl, rfl⟩)
      go_round
      case rel => exact ⟨k + 1, by omega, by go_num, val_int (by rw [← HS.out]; congr 2 <;> omega)⟩
      case measure => simp [intOf]; omega
    · rcases Nat.eq_or_lt_of_le hge with he | hgt
      · obtain ⟨b, off, rfl, hc⟩ := hb.at_ (by omega)
        have c0 := hc (2 * k) (by omega)
        have HS := Lib.hid (add_last p.toNat bs k (by omega))
        have HT := Lib.hid (show bs.take (2 * (k + 1)) = bs from List.take_of_length_le (by omega))
        have HE := Lib.hid he
        have e0 : (2 * (k : Int)) < (bs.length : Int) := by omega
        have e1 : (bs.length : Int) ≤ (2 * (k : Int)) + 1 := by omega
        clear hc hb he
        generalize hx : bs.getD (2 * k) 0 = x at *
        generalize hr : rnd (p.toNat + words (bs.take (2 * k))) = r at *
        clear hx hr
        have hx := x.toNat_lt
        go_wp2_with (go_at_call 44; refine (refround_any _ (by omega) (by omega) _).mono ?_; rintro e w' ⟨rfl, rfl⟩)
        go_round
        case rel => exact ⟨k + 1, by omega, by go_num, val_int (by rw [HT.out, ← HS.out]; congr 2 <;> omega)⟩
        case measure => simp [intOf]; omega
      · have e2 : bs.take (2 * k) = bs := List.take_of_length_le (by omega)
        rw [e2]
        clear e2
        have e0 : (bs.length : Int) ≤ 2 * (k : Int) := by omega
        go_wp2_with fail
        go_ret
        exact ⟨rfl, rfl⟩

theorem reffold_any (p : Int) (h0 : 0 ≤ p) (h1 : p < 4294967296) (w : World) :
    Calls Try.prog 29 #[.int .u32 p] w fun e w' => e = .returned (.int .u16 (65535 - rnd p.toNat : Nat)) ∧ w = w' := by
  have hr := rnd_le p.toNat
  go_enter Try.func29, Try.ntmps29
  go_wp2_with (go_at_call 44; refine (refround_any _ (by omega) (by omega) _).mono ?_; rintro e w' ⟨rfl, rfl⟩)
  go_ret
  exact ⟨ret_int (by omega), rfl⟩

end Go.Proofs.Ytpnfdnnfhmecjaa
