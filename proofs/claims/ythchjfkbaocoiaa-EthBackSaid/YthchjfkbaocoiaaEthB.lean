/-
  The walks of value, digit: a digit's value.
-/
import Derived.Test.YthchjfkbaocoiaaEthA
import Derived.Test.YthchjfkbaocoiaaShelf05
namespace Go.Proofs.Ythchjfkbaocoiaa
open Go.RowKit
set_option linter.unusedVariables false

theorem low_up (c : UInt8) (h0 : 65 ≤ c.toNat) (h1 : c.toNat ≤ 70) : (((c.toNat : Int) + 32).toNat.toUInt8) = low c := by
  rw [low, if_pos ⟨h0, h1⟩]
  congr 1
theorem low_as (c : UInt8) (h : ¬ (65 ≤ c.toNat ∧ c.toNat ≤ 70)) : ((c.toNat : Int).toNat.toUInt8) = low c := by
  rw [low, if_neg h, Int.toNat_natCast]
  exact UInt8.ofNat_toNat
theorem value_any (c : UInt8) (w : World) :
    Calls Try.prog 27 #[.int .u8 (c.toNat : Int)] w fun e w' => e = .returned (.int .i64 (hexv c)) ∧ w = w' := by
  have HV := Lib.hid (hexv_index c)
  have hlt := c.toNat_lt
  by_cases h1 : 65 ≤ c.toNat
  · by_cases h2 : c.toNat ≤ 70
    · have e := Lib.hid (low_up c h1 h2)
      go_enter Try.func27, Try.ntmps27
      go_wp2_with fail
      refine (Try.strings_IndexByte _ _ _).mono ?_
      rw [e.out]
      rintro e w' ⟨rfl, rfl⟩
      go_wp2_with fail
      go_ret
      exact ⟨congrArg (fun z => Ending.returned (.int .i64 z)) HV.out, rfl⟩
    · have e := Lib.hid (low_as c (fun h => h2 h.2))
      go_enter Try.func27, Try.ntmps27
      go_wp2_with fail
      refine (Try.strings_IndexByte _ _ _).mono ?_
      rw [e.out]
      rintro e w' ⟨rfl, rfl⟩
      go_wp2_with fail
      go_ret
      exact ⟨congrArg (fun z => Ending.returned (.int .i64 z)) HV.out, rfl⟩
  · have e := Lib.hid (low_as c (fun h => h1 h.1))
    go_enter Try.func27, Try.ntmps27
    go_wp2_with fail
    refine (Try.strings_IndexByte _ _ _).mono ?_
    rw [e.out]
    rintro e w' ⟨rfl, rfl⟩
    go_wp2_with fail
    go_ret
    exact ⟨congrArg (fun z => Ending.returned (.int .i64 z)) HV.out, rfl⟩
theorem digit_any (c : UInt8) (w : World) :
    Calls Try.prog 29 #[.int .u8 (c.toNat : Int)] w fun e w' => e = .returned (.int .i64 (hexv c)) ∧ w = w' := by
  have hlt := c.toNat_lt
  have HV : Hid (∀ z : Int, z = hexv c → Ending.returned (.int .i64 z) = .returned (.int .i64 (hexv c))) := fun z h => by rw [h]
  by_cases h1 : 48 ≤ c.toNat
  · by_cases h2 : c.toNat ≤ 57
    · go_enter Try.func29, Try.ntmps29
      go_wp2
      go_ret
      exact ⟨HV.out _ (by unfold hexv; rw [if_pos ⟨h1, h2⟩]), rfl⟩
    · by_cases h3 : 97 ≤ c.toNat
      · by_cases h4 : c.toNat ≤ 102
        · go_enter Try.func29, Try.ntmps29
          go_wp2
          go_ret
          exact ⟨HV.out _ (by unfold hexv; rw [if_neg (by omega), if_pos ⟨h3, h4⟩]; omega), rfl⟩
        · go_enter Try.func29, Try.ntmps29
          go_wp2
          go_ret
          exact ⟨HV.out _ (by unfold hexv; rw [if_neg (by omega), if_neg (by omega), if_neg (by omega)]), rfl⟩
      · by_cases h5 : 65 ≤ c.toNat
        · by_cases h6 : c.toNat ≤ 70
          · go_enter Try.func29, Try.ntmps29
            go_wp2
            go_ret
            exact ⟨HV.out _ (by unfold hexv; rw [if_neg (by omega), if_neg (by omega), if_pos ⟨h5, h6⟩]; omega), rfl⟩
          · go_enter Try.func29, Try.ntmps29
            go_wp2
            go_ret
            exact ⟨HV.out _ (by unfold hexv; rw [if_neg (by omega), if_neg (by omega), if_neg (by omega)]), rfl⟩
        · go_enter Try.func29, Try.ntmps29
          go_wp2
          go_ret
          exact ⟨HV.out _ (by unfold hexv; rw [if_neg (by omega), if_neg (by omega), if_neg (by omega)]), rfl⟩
  · go_enter Try.func29, Try.ntmps29
    go_wp2
    go_ret
    exact ⟨HV.out _ (by unfold hexv; rw [if_neg (by omega), if_neg (by omega), if_neg (by omega)]), rfl⟩

/-- The byte at i of a string. -/
theorem str_index (s : ByteArray) (i : Int) (n : Nat) (hi : i = n) (h : n < s.size) (W : World) : (Instr.index 9 (.string s) (.int .i64 i)).run Try.prog W = .ok (.int .u8 ((s.data.toList.getD n 0).toNat : Int)) W := by
  subst hi
  simp [go_sem, Try.underlying9]
  rw [dif_pos h, Array.getElem?_eq_getElem (show n < s.data.size from h)]
  rfl
end Go.Proofs.Ythchjfkbaocoiaa
