/-
  The walk of the reference's Text.
-/
import Derived.Test.YthchjfkbaocoiaaEthD
import Derived.Test.YthchjfkbaocoiaaSame
import Derived.Deep.RegionWith
import Derived.Deep.AppendLies
import Derived.RegionTactic
namespace Go.Proofs.Ythchjfkbaocoiaa
open Go.RowKit
set_option linter.unusedVariables false

theorem dig_index (k : IntKind) (i : Int) (n : Nat) (hi : i = n) (h : n < 16) (W : World) : (Instr.index 9 (.string { data := #[48, 49, 50, 51, 52, 53, 54, 55, 56, 57, 97, 98, 99, 100, 101, 102] }) (.int k i)).run Try.prog W = .ok (.int .u8 ((dig n).toNat : Int)) W := by
  subst hi
  have e : ∀ n : Fin 16, (Instr.index 9 (.string { data := #[48, 49, 50, 51, 52, 53, 54, 55, 56, 57, 97, 98, 99, 100, 101, 102] }) (.int k (n.val : Int))).run Try.prog W = .ok (.int .u8 ((dig n.val).toNat : Int)) W := by
    intro n
    rcases n with ⟨n, hn⟩
    rcases (by omega : n = 0 ∨ n = 1 ∨ n = 2 ∨ n = 3 ∨ n = 4 ∨ n = 5 ∨ n = 6 ∨ n = 7 ∨ n = 8 ∨ n = 9 ∨ n = 10 ∨ n = 11 ∨ n = 12 ∨ n = 13 ∨ n = 14 ∨ n = 15) with rfl | rfl | rfl | rfl | rfl | rfl | rfl | rfl | rfl | rfl | rfl | rfl | rfl | rfl | rfl | rfl
    all_goals kernel_rfl
  exact e ⟨n, h⟩
theorem bytes_app (a b : List UInt8) : (⟨a.toArray⟩ : ByteArray) ++ (⟨b.toArray⟩ : ByteArray) = ⟨(a ++ b).toArray⟩ := by
  apply ByteArray.ext
  simp [ByteArray.data_append]
theorem below_drew {B : Nat} {a w : World} (h : Below B a w) : Below B a w.drew := ⟨h.os, h.tape, h.output, h.size, h.block⟩
/-- The text of a few bytes, each but the first with a colon ahead. -/
def textR : List UInt8 → List UInt8
  | [] => []
  | x :: r => 58 :: (pair x ++ textR r)
def textN (m : List UInt8) : List UInt8 := (textR m).drop 1
theorem textR_append : ∀ a b : List UInt8, textR (a ++ b) = textR a ++ textR b
  | [], b => rfl
  | x :: a, b => by simp [textR, textR_append a b]
theorem textN_snoc (a : List UInt8) (x : UInt8) : textN (a ++ [x]) = if a = [] then pair x else textN a ++ 58 :: pair x := by
  unfold textN
  rw [textR_append]
  match a with
  | [] => simp [textR]
  | y :: a => simp [textR]
theorem textN_text : ∀ m : List UInt8, textN m = text m
  | [] => rfl
  | [x] => by simp [textN, textR, text]
  | x :: y :: r => by
    have ih := textN_text (y :: r)
    unfold textN at ih ⊢
    simp [textR, text] at ih ⊢
    exact ih

theorem textR_length : ∀ m : List UInt8, (textR m).length = 3 * m.length
  | [] => rfl
  | x :: r => by
    have := textR_length r
    simp [textR, pair, this]
    omega
theorem textN_length (m : List UInt8) : (textN m).length ≤ 3 * m.length := by
  unfold textN
  rw [List.length_drop, textR_length]
  omega

set_option maxHeartbeats 4000000 in
set_option maxRecDepth 100000 in
theorem rtext_any (m : List UInt8) (w : World) (hm : m.length = 6) :
    Calls Try.prog 18 #[.agg (macv m)] w fun e w' => e = .returned (.string ⟨(text m).toArray⟩) ∧ Below w.heap.size w w' := by
  have hb : Below w.heap.size w (w.alloc (.cells (macv m) 23)) := (Below.refl _ _).alloc (Nat.le_refl _) _
  have hbx := blk_new w 23 (macv m)
  have HB := Lib.hid hb
  have HX := Lib.hid hbx
  have HM := Lib.hid hm
  clear hb hbx hm
  go_enter Try.func18, Try.ntmps18
  go_wp2_with fail
  go_loopw [4, 5] (fun t i wr => ∃ n : Nat, n ≤ 6 ∧ i = .int .i64 n ∧ t = .string ⟨(textN (m.take n)).toArray⟩ ∧ Blk wr w.heap.size 23 (macv m) ∧ Below w.heap.size w wr) (fun _ i _ => 6 - (intOf i).toNat)
  case atStart => exact ⟨0, by omega, rfl, by simp [textN, textR], HX.out, HB.out⟩
  case round =>
    obtain ⟨n, hn, rfl, rfl, hx, hb⟩ := hrel
    obtain ⟨z, hz⟩ : ∃ z : Int, z = n := ⟨_, rfl⟩
    rw [← hz]
    have hz0 : 0 ≤ z := by omega
    have hz6 : z ≤ 6 := by omega
    clear HB HX
    have HZ := Lib.hid hz
    have HX := Lib.hid hx
    have HB := Lib.hid hb
    clear hz hx hb
    by_cases hlt : z < 6
    · obtain ⟨x, hxm⟩ : ∃ x, m[n]? = some x := ⟨_, List.getElem?_eq_getElem (by have := HZ.out; have := HM.out; omega)⟩
      have ht : m.take (n + 1) = m.take n ++ [x] := by rw [List.take_add_one, hxm]; rfl
      have gm : wr.cell? ⟨w.heap.size, z.toNat, none⟩ = some (.int .u8 (x.toNat : Int)) := by
        rw [HX.out.cell, show z.toNat = n by have := HZ.out; omega]
        simp [macv, hxm, bval]
      have xl := x.toNat_lt
      obtain ⟨hi, EH⟩ : ∃ y : Int, Hid (((x.toNat / 16 : Nat) : Int) = y) := ⟨_, rfl⟩
      obtain ⟨lo, EL⟩ : ∃ y : Int, Hid (((x.toNat % 16 : Nat) : Int) = y) := ⟨_, rfl⟩
      have i1 := dig_index .u8 hi (x.toNat / 16) EH.out.symm (by omega)
      have i2 := dig_index .u8 lo (x.toNat % 16) EL.out.symm (by omega)
      have e1 : (x.toNat : Int).tdiv 16 = hi := by rw [← EH.out, Int.tdiv_eq_ediv_of_nonneg (by omega)]; omega
      have e2 : (x.toNat : Int).tmod 16 = lo := by rw [← EL.out, Int.tmod_eq_emod_of_nonneg (by omega)]; omega
      have e3 : IntKind.u8.wrap hi = hi := by have := EH.out; simp [IntKind.wrap, IntKind.bits, IntKind.signed]; omega
      have e4 : IntKind.u8.wrap lo = lo := by have := EL.out; simp [IntKind.wrap, IntKind.bits, IntKind.signed]; omega
      have e5 : (x.toNat : Int) / 16 = hi := by have := EH.out; omega
      have e6 : (x.toNat : Int) % 16 = lo := by have := EL.out; omega
      have HT := Lib.hid ht
      clear hxm ht
      have hTL := textN_length (m.take n)
      rw [List.length_take] at hTL
      obtain ⟨S, ES⟩ : ∃ S : ByteArray, Hid ((⟨(textN (m.take n)).toArray⟩ : ByteArray) = S) := ⟨_, rfl⟩
      have hS : S.size ≤ 100 := by rw [← ES.out]; show (textN (m.take n)).toArray.size ≤ 100; simp; omega
      rw [ES.out]
      clear hTL
      obtain ⟨p, EP⟩ : ∃ y : UInt8, Hid (dig (x.toNat / 16) = y) := ⟨_, rfl⟩
      obtain ⟨q, EQ⟩ : ∃ y : UInt8, Hid (dig (x.toNat % 16) = y) := ⟨_, rfl⟩
      rw [EP.out] at i1
      rw [EQ.out] at i2
      have PQ : Hid (pair x = [p, q]) := by show _ = _; rw [pair, EP.out, EQ.out]
      have cv := (show (convert 29 9 (.slice (some ⟨wr.heap.size, 0, none⟩) 2 2)).run Try.prog (wr.alloc (.cells #[.int .u8 (p.toNat : Int), .int .u8 (q.toNat : Int)] 5)).drew = .ok (.string ⟨#[p, q]⟩) (wr.alloc (.cells #[.int .u8 (p.toNat : Int), .int .u8 (q.toNat : Int)] 5)).drew from ((bs_lit wr [p, q]).drawn ⟨1, rfl⟩).str 2)
      by_cases h0 : (0 : Int) < z
      · have RES : Hid (Value.string (S ++ ⟨#[58]⟩ ++ ⟨#[p, q]⟩) = .string ⟨(textN (m.take (n + 1))).toArray⟩) := by
          show _ = _
          rw [HT.out, textN_snoc, if_neg (by intro e; have := congrArg List.length e; simp only [List.length_take, List.length_nil] at this; have := HZ.out; have := HM.out; omega), PQ.out, ← ES.out]
          show Value.string ((⟨(textN (m.take n)).toArray⟩ : ByteArray) ++ (⟨([58] : List UInt8).toArray⟩ : ByteArray) ++ (⟨([p, q] : List UInt8).toArray⟩ : ByteArray)) = _
          rw [bytes_app, bytes_app]
          simp
        clear EP EQ
        go_wp2_with fail
        go_region_with (fail)
        all_goals
          go_wp2_with fail
          go_roundw
          case rel => exact ⟨n + 1, by have := HZ.out; omega, by rw [HZ.out]; go_num, by rw [← RES.out], blk_old HX.out _, below_drew (HB.out.alloc HB.out.size _)⟩
          case measure => simp [intOf]; have := HZ.out; omega
      · have RES : Hid (Value.string (S ++ ⟨#[p, q]⟩) = .string ⟨(textN (m.take (n + 1))).toArray⟩) := by
          have n0 : n = 0 := by have := HZ.out; omega
          show _ = _
          rw [HT.out, textN_snoc, if_pos (by rw [n0]; rfl), PQ.out, ← ES.out, n0]
          rfl
        clear EP EQ
        go_wp2_with fail
        go_region_with (fail)
        all_goals
          go_wp2_with fail
          go_roundw
          case rel => exact ⟨n + 1, by have := HZ.out; omega, by rw [HZ.out]; go_num, by rw [← RES.out], blk_old HX.out _, below_drew (HB.out.alloc HB.out.size _)⟩
          case measure => simp [intOf]; have := HZ.out; omega
    · have n6 : n = 6 := by have := HZ.out; omega
      subst n6
      rw [List.take_of_length_le (by have := HM.out; omega), textN_text]
      go_wp2_with fail
      go_ret
      exact ⟨rfl, HB.out⟩
end Go.Proofs.Ythchjfkbaocoiaa
