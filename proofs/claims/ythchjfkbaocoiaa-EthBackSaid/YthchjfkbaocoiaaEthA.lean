/-
  The walks of Group, Mine, Everybody, both.
-/
import Derived.Test.YthchjfkbaocoiaaRow
import Derived.Test.YthchjfkbaocoiaaPlainEth
import Derived.Stop.BytesEq
namespace Go.Proofs.Ythchjfkbaocoiaa
open Go.RowKit
set_option linter.unusedVariables false

/-- An address's value. -/
def macv (m : List UInt8) : Array Value := (m.map bval).toArray
def groupB (m : List UInt8) : Bool := decide ((m.getD 0 0).toNat % 2 = 1)
theorem and_one (x : UInt8) : bits .and .u8 (x.toNat : Int) 1 = ((x.toNat % 2 : Nat) : Int) := by
  have := all_u8 (fun x => decide (bits .and .u8 (x.toNat : Int) 1 = ((x.toNat % 2 : Nat) : Int))) (by decide +kernel) x
  simpa using this
theorem group_any (m : List UInt8) (w : World) (hm : m.length = 6) :
    Calls Try.prog 14 #[.agg (macv m)] w fun e w' => e = .returned (.bool (groupB m)) ∧ Below w.heap.size w w' := by
  match m, hm with
  | [a, b, c, d, e, f], _ =>
    have h1 := and_one a
    have hb : Below w.heap.size w (w.alloc (.cells (macv [a, b, c, d, e, f]) 23)) := (Below.refl _ _).alloc (Nat.le_refl _) _
    unfold macv at *
    simp only [List.map_cons, List.map_nil, bval] at *
    have HB := Lib.hid hb
    clear hb
    go_enter Try.func14, Try.ntmps14
    go_wp2
    go_ret
    exact ⟨congrArg (fun b => Ending.returned (.bool b)) (by unfold groupB; rw [Bool.eq_iff_iff]; simp; omega), HB.out⟩
theorem rgroup_any (m : List UInt8) (w : World) (hm : m.length = 6) :
    Calls Try.prog 15 #[.agg (macv m)] w fun e w' => e = .returned (.bool (groupB m)) ∧ Below w.heap.size w w' := by
  match m, hm with
  | [a, b, c, d, e, f], _ =>
    have hb : Below w.heap.size w (w.alloc (.cells (macv [a, b, c, d, e, f]) 23)) := (Below.refl _ _).alloc (Nat.le_refl _) _
    unfold macv at *
    simp only [List.map_cons, List.map_nil, bval] at *
    have HB := Lib.hid hb
    clear hb
    go_enter Try.func15, Try.ntmps15
    go_wp2
    go_ret
    exact ⟨congrArg (fun b => Ending.returned (.bool b)) (by unfold groupB; rw [Bool.eq_iff_iff]; simp; omega), HB.out⟩
def all255 : List UInt8 := [255, 255, 255, 255, 255, 255]
theorem everybody_any (w : World) :
    Calls Try.prog 16 #[] w fun e w' => e = .returned (.agg (macv all255)) ∧ Below w.heap.size w w' := by
  have hb : Below w.heap.size w (w.alloc (.cells (macv all255) 23)) := (Below.refl _ _).alloc (Nat.le_refl _) _
  have HB := Lib.hid hb
  clear hb
  go_enter Try.func16, Try.ntmps16
  go_wp2
  exact bodyPost_ret (v := .agg (macv all255)) (by simp [results, Try.results16, go_sem, macv, all255, bval]) rfl ⟨rfl, HB.out⟩
theorem reverybody_any (w : World) :
    Calls Try.prog 17 #[] w fun e w' => e = .returned (.agg (macv all255)) ∧ Below w.heap.size w w' := by
  have hb : Below w.heap.size w (w.alloc (.cells (macv all255) 23)) := (Below.refl _ _).alloc (Nat.le_refl _) _
  have HB := Lib.hid hb
  clear hb
  go_enter Try.func17, Try.ntmps17
  go_wp2
  exact bodyPost_ret (v := .agg (macv all255)) (by simp [results, Try.results17, go_sem, macv, all255, bval]) rfl ⟨rfl, HB.out⟩

/-- Two addresses are the same just if their bytes are. -/
theorem mac_eq (m n : List UInt8) (hm : m.length = 6) (hn : n.length = 6) (W : World) : (Op.equalIn 10000 23 (.agg (macv m)) (.agg (macv n))).run Try.prog W = .ok (m == n) W :=
  run_equalIn_bytes W 9998 23 5 6 (by kernel_rfl) (by kernel_rfl) (fun _ => by kernel_rfl) m n hm hn
theorem mac_guard : Try.prog.eqGuardType Try.prog.depth 23 = false := by kernel_rfl
def mineB (me to_ : List UInt8) : Bool := (to_ == me) || groupB to_
theorem mine_any (me to_ : List UInt8) (w : World) (hm : me.length = 6) (ht : to_.length = 6) :
    Calls Try.prog 12 #[.agg (macv me), .agg (macv to_)] w fun e w' => e = .returned (.bool (mineB me to_)) ∧ Below w.heap.size w w' := by
  have hq := mac_eq to_ me ht hm
  have hg := mac_guard
  have hb : Below w.heap.size w ((w.alloc (.cells (macv me) 23)).alloc (.cells (macv to_) 23)) := ((Below.refl _ _).alloc (Nat.le_refl _) _).alloc (by simp) _
  have GR := Lib.hid (group_any to_ ((w.alloc (.cells (macv me) 23)).alloc (.cells (macv to_) 23)) ht)
  have EM : Hid (mineB me to_ = ((to_ == me) || groupB to_)) := rfl
  match me, hm, to_, ht with
  | [a, b, c, d, e, f], _, [a', b', c', d', e', f'], _ =>
    cases hh : (([a', b', c', d', e', f'] : List UInt8) == [a, b, c, d, e, f])
    all_goals
      rw [hh] at hq EM
      have HH := Lib.hid hh
      clear hh
      unfold macv at hq hb GR ⊢
      simp only [List.map_cons, List.map_nil, bval] at hq hb GR ⊢
      have HB := Lib.hid hb
      clear hb
      go_enter Try.func12, Try.ntmps12
      go_wp2_with fail
    · refine GR.out.mono ?_
      obtain ⟨q, EQ⟩ : ∃ q, Hid (groupB [a', b', c', d', e', f'] = q) := ⟨_, rfl⟩
      rw [EQ.out]
      rintro e w' ⟨rfl, hb2⟩
      go_wp2_with fail
      go_ret
      exact ⟨by rw [EM.out, EQ.out]; rfl, HB.out.trans (hb2.mono HB.out.size)⟩
    · go_ret
      exact ⟨by rw [EM.out]; rfl, HB.out⟩
theorem rmine_any (me to_ : List UInt8) (w : World) (hm : me.length = 6) (ht : to_.length = 6) :
    Calls Try.prog 13 #[.agg (macv me), .agg (macv to_)] w fun e w' => e = .returned (.bool (mineB me to_)) ∧ Below w.heap.size w w' := by
  have hq := mac_eq me to_ hm ht
  have hg := mac_guard
  have hb : Below w.heap.size w ((w.alloc (.cells (macv me) 23)).alloc (.cells (macv to_) 23)) := ((Below.refl _ _).alloc (Nat.le_refl _) _).alloc (by simp) _
  have GR := Lib.hid (rgroup_any to_ ((w.alloc (.cells (macv me) 23)).alloc (.cells (macv to_) 23)) ht)
  have EM : Hid (mineB me to_ = ((me == to_) || groupB to_)) := by show mineB me to_ = _; unfold mineB; rw [Bool.beq_comm]
  match me, hm, to_, ht with
  | [a, b, c, d, e, f], _, [a', b', c', d', e', f'], _ =>
    cases hh : (([a, b, c, d, e, f] : List UInt8) == [a', b', c', d', e', f'])
    all_goals
      rw [hh] at hq EM
      have HH := Lib.hid hh
      clear hh
      unfold macv at hq hb GR ⊢
      simp only [List.map_cons, List.map_nil, bval] at hq hb GR ⊢
      have HB := Lib.hid hb
      clear hb
      go_enter Try.func13, Try.ntmps13
      go_wp2_with fail
    · refine GR.out.mono ?_
      obtain ⟨q, EQ⟩ : ∃ q, Hid (groupB [a', b', c', d', e', f'] = q) := ⟨_, rfl⟩
      rw [EQ.out]
      rintro e w' ⟨rfl, hb2⟩
      go_wp2_with fail
      go_ret
      exact ⟨by rw [EM.out, EQ.out]; rfl, HB.out.trans (hb2.mono HB.out.size)⟩
    · go_ret
      exact ⟨by rw [EM.out]; rfl, HB.out⟩
end Go.Proofs.Ythchjfkbaocoiaa
