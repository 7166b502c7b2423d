/-
  The walk of the law TallyVoid: a tally that no call made.
-/
import Derived.Test.YtphicjokogljcaaTallyLaws1
namespace Go.Proofs.Ytphicjokogljcaa
open Go.RowKit

/-- A tally that no call made: nil, or one without peers. -/
def VoidT (w : World) (a : Option Addr) : Prop := a = none ∨ ∃ g, a = some ⟨g, 0, none⟩ ∧ w.cell? ⟨g, 128, none⟩ = some (.int .i64 0)
theorem VoidT.below {w w' : World} {a : Option Addr} (h : VoidT w a) (hb : Below w.heap.size w w') : VoidT w' a := by
  rcases h with h | ⟨g, h, hc⟩
  · exact .inl h
  · exact .inr ⟨g, h, by rw [hb.cell (World.block_lt_of_cell? w _ hc)]; exact hc⟩

theorem isv (a : Option Addr) (w : World) (h : VoidT w a) :
    Calls Try.prog 23 #[.pointer a] w fun e w' => e = .returned (.bool false) ∧ w = w' := by
  rcases h with rfl | ⟨g, rfl, hc⟩
  all_goals
    go_enter Try.func23, Try.ntmps23
    go_wp2
    go_ret
    exact ⟨rfl, rfl⟩
theorem atv (a : Option Addr) (p k : Int) (w : World) (h : VoidT w a) :
    Calls Try.prog 24 #[.pointer a, .int .i64 p, .int .i64 k] w fun e w' => e = .returned (.pointer none) ∧ w = w' := by
  go_enter Try.func24, Try.ntmps24
  go_wp2_with fail
  refine (isv a _ h).mono ?_
  rintro e w' ⟨rfl, rfl⟩
  go_wp2_with fail
  go_ret
  exact ⟨rfl, rfl⟩
theorem addv (a : Option Addr) (p k i o : Int) (w : World) (h : VoidT w a) :
    Calls Try.prog 13 #[.pointer a, .int .i64 p, .int .i64 k, .int .i64 i, .int .i64 o] w fun e w' => e = .returned (.int .i64 1) ∧ w = w' := by
  go_enter Try.func13, Try.ntmps13
  go_wp2_with fail
  refine (isv a _ h).mono ?_
  rintro e w' ⟨rfl, rfl⟩
  go_wp2_with fail
  go_ret
  exact ⟨rfl, rfl⟩
theorem clearv (a : Option Addr) (p : Int) (w : World) (h : VoidT w a) :
    Calls Try.prog 21 #[.pointer a, .int .i64 p] w fun e w' => e = .returned (.int .i64 1) ∧ w = w' := by
  go_enter Try.func21, Try.ntmps21
  go_wp2_with fail
  refine (isv a _ h).mono ?_
  rintro e w' ⟨rfl, rfl⟩
  go_wp2_with fail
  go_ret
  exact ⟨rfl, rfl⟩
theorem getv (a : Option Addr) (p k : Int) (w : World) (h : VoidT w a) :
    Calls Try.prog 14 #[.pointer a, .int .i64 p, .int .i64 k] w fun e w' => e = .returned (.tuple #[.int .i64 0, .int .i64 0]) ∧ w = w' := by
  go_enter Try.func14, Try.ntmps14
  go_wp2_with fail
  refine (atv a p k _ h).mono ?_
  rintro e w' ⟨rfl, rfl⟩
  go_wp2_with fail
  go_ret2
  exact ⟨rfl, rfl⟩
theorem overv (a : Option Addr) (F : Value) (w : World) (h : VoidT w a) :
    Calls Try.prog 28 #[.pointer a, F] w fun e w' => e = .returned (.complex .f64 0 0) ∧ w = w' := by
  go_enter Try.func28, Try.ntmps28
  go_wp2_with fail
  refine (isv a _ h).mono ?_
  rintro e w' ⟨rfl, rfl⟩
  go_wp2_with fail
  go_ret
  exact ⟨rfl, rfl⟩
theorem parts0 (w : World) : Calls Try.prog 11 #[.complex .f64 0 0] w fun e w' => e = .returned (.tuple #[.int .i64 0, .int .i64 0]) ∧ w = w' := by
  have := parts_fl 0 0 (by omega) (by omega) w
  rw [fl_zero] at this
  exact this
theorem peerv (a : Option Addr) (p : Int) (w : World) (h : VoidT w a) :
    Calls Try.prog 18 #[.pointer a, .int .i64 p] w fun e w' => e = .returned (.tuple #[.int .i64 0, .int .i64 0]) ∧ Below w.heap.size w w' := by
  have hb := (Below.refl w.heap.size w).alloc (Nat.le_refl _) (.cells #[.int .i64 p] 3)
  have h' := h.below hb
  go_enter Try.func18, Try.ntmps18
  go_wp2_with fail
  refine (overv a _ _ h').mono ?_
  rintro e w' ⟨rfl, rfl⟩
  go_wp2_with fail
  refine (parts0 _).mono ?_
  rintro e w' ⟨rfl, rfl⟩
  go_wp2_with fail
  go_ret2
  exact ⟨rfl, hb⟩
theorem kindv (a : Option Addr) (p : Int) (w : World) (h : VoidT w a) :
    Calls Try.prog 19 #[.pointer a, .int .i64 p] w fun e w' => e = .returned (.tuple #[.int .i64 0, .int .i64 0]) ∧ Below w.heap.size w w' := by
  have hb := (Below.refl w.heap.size w).alloc (Nat.le_refl _) (.cells #[.int .i64 p] 3)
  have h' := h.below hb
  go_enter Try.func19, Try.ntmps19
  go_wp2_with fail
  refine (overv a _ _ h').mono ?_
  rintro e w' ⟨rfl, rfl⟩
  go_wp2_with fail
  refine (parts0 _).mono ?_
  rintro e w' ⟨rfl, rfl⟩
  go_wp2_with fail
  go_ret2
  exact ⟨rfl, hb⟩
theorem allv (a : Option Addr) (w : World) (h : VoidT w a) :
    Calls Try.prog 20 #[.pointer a] w fun e w' => e = .returned (.complex .f64 0 0) ∧ w = w' := by
  go_enter Try.func20, Try.ntmps20
  go_wp2_with fail
  refine (overv a _ _ h).mono ?_
  rintro e w' ⟨rfl, rfl⟩
  go_wp2_with fail
  go_ret
  exact ⟨rfl, rfl⟩

theorem zero_void (w : World) : VoidT (w.alloc (.cells zeroT 50)) (some ⟨w.heap.size, 0, none⟩) := by
  refine .inr ⟨_, rfl, ?_⟩
  rw [cell_of_row _ _ 128 zeroT _ (0, 0) (heap_alloc_new w _)]
  unfold zeroT
  rw [List.getElem?_toArray, List.getElem?_append_right (by rw [List.length_replicate]; omega), List.length_replicate]
  rfl

set_option maxHeartbeats 2000000 in
set_option maxRecDepth 100000 in
theorem tallyVoid_walk (p k n : Int) (w : World) :
    Calls Try.prog 7 #[.int .i64 p, .int .i64 k, .int .i64 n] w fun e w' => e = .returned (.bool true) ∧ Below w.heap.size w w' := by
  have hz := zeroT_run
  have o0 : FloatKind.f64.format.order 0 0 = some .eq := by decide
  go_enter Try.func7, Try.ntmps7
  go_wp2_with fail
  refine (tworks_any _).mono ?_
  rintro e w1 ⟨rfl, hb⟩
  have v1 := zero_void w1
  have hb1 := hb.alloc hb.size (.cells zeroT 50)
  go_wp2_with fail
  refine (getv none p k _ (.inl rfl)).mono ?_
  rintro e w2 ⟨rfl, rfl⟩
  go_wp2_with fail
  clear hz
  generalize w1.alloc (.cells zeroT 50) = w2 at *
  refine (peerv _ p _ v1).mono ?_
  rintro e w3 ⟨rfl, hb3⟩
  replace v1 := v1.below hb3
  replace hb1 := hb1.trans (hb3.mono hb1.size)
  clear hb3
  go_wp2_with fail
  refine (kindv none k _ (.inl rfl)).mono ?_
  rintro e w4 ⟨rfl, hb3⟩
  replace v1 := v1.below hb3
  replace hb1 := hb1.trans (hb3.mono hb1.size)
  clear hb3
  go_wp2_with fail
  refine (addv none _ _ _ _ _ (.inl rfl)).mono ?_
  rintro e w2 ⟨rfl, rfl⟩
  go_wp2_with fail
  refine (addv _ _ _ _ _ _ v1).mono ?_
  rintro e w2 ⟨rfl, rfl⟩
  go_wp2_with fail
  refine (clearv none _ _ (.inl rfl)).mono ?_
  rintro e w2 ⟨rfl, rfl⟩
  go_wp2_with fail
  refine (clearv _ _ _ v1).mono ?_
  rintro e w2 ⟨rfl, rfl⟩
  go_wp2_with fail
  refine (allv none _ (.inl rfl)).mono ?_
  rintro e w2 ⟨rfl, rfl⟩
  go_wp2_with fail
  refine (allv _ _ v1).mono ?_
  rintro e w2 ⟨rfl, rfl⟩
  go_wp2_with fail
  go_ret
  exact ⟨rfl, hb1⟩
end Go.Proofs.Ytphicjokogljcaa
