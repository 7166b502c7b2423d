/-
  The walk of icmp.Build.
-/
import Derived.Test.YtnphhikbdffmpaaSumFns
import Derived.Deep.QuietTactic
import Derived.BigQuiet
import Derived.RegionTactic
import Derived.BigRegion
import Derived.Laws.MakeOwn
namespace Go.Proofs.Ytnphhikbdffmpaa
open Go.RowKit

theorem octet_any (n : Int) (w : World) : Calls Try.prog 23 #[.int .i64 n] w fun e w' => e = .returned (.bool (decide (0 ≤ n ∧ n ≤ 255))) ∧ w = w' := by
  by_cases h0 : 0 ≤ n
  · by_cases h1 : n ≤ 255
    · rw [decide_eq_true ⟨h0, h1⟩]
      go_enter Try.func23, Try.ntmps23
      go_wp2
      go_ret
      exact ⟨rfl, rfl⟩
    · rw [decide_eq_false (fun h => h1 h.2)]
      go_enter Try.func23, Try.ntmps23
      go_wp2
      go_ret
      exact ⟨rfl, rfl⟩
  · rw [decide_eq_false (fun h => h0 h.1)]
    go_enter Try.func23, Try.ntmps23
    go_wp2
    go_ret
    exact ⟨rfl, rfl⟩

theorem build_arg (k c r : Int) (D : Option Addr) (n d : Nat) (w : World) (h : ¬ (0 ≤ k ∧ k ≤ 255) ∨ ((0 ≤ k ∧ k ≤ 255) ∧ ¬ (0 ≤ c ∧ c ≤ 255))) :
    Calls Try.prog 8 #[.agg #[.int .i64 k, .int .i64 c, .int .u32 r, .slice D n d]] w fun e w' => e = .returned (.tuple #[.slice none 0 0, .int .i64 2]) ∧ Below w.heap.size w w' := by
  have hb : Below w.heap.size w (w.alloc (.cells #[.int .i64 k, .int .i64 c, .int .u32 r, .slice D n d] 25)) := (Below.refl _ _).alloc (Nat.le_refl _) _
  rcases h with h | ⟨h, h'⟩
  · go_enter Try.func8, Try.ntmps8
    go_wp2_with fail
    refine (octet_any k _).mono ?_
    rintro e w' ⟨rfl, rfl⟩
    rw [decide_eq_false h]
    go_wp2_with fail
    go_ret2
    exact ⟨rfl, hb⟩
  · go_enter Try.func8, Try.ntmps8
    go_wp2_with fail
    refine (octet_any k _).mono ?_
    rintro e w' ⟨rfl, rfl⟩
    rw [decide_eq_true h]
    go_wp2_with fail
    refine (octet_any c _).mono ?_
    rintro e w' ⟨rfl, rfl⟩
    rw [decide_eq_false h']
    go_wp2_with fail
    go_ret2
    exact ⟨rfl, hb⟩
theorem build_long (k c r : Int) (D : Option Addr) (n d : Nat) (w : World) (h : 0 ≤ k ∧ k ≤ 255) (h' : 0 ≤ c ∧ c ≤ 255) (hn : (1472 : Int) < n) :
    Calls Try.prog 8 #[.agg #[.int .i64 k, .int .i64 c, .int .u32 r, .slice D n d]] w fun e w' => e = .returned (.tuple #[.slice none 0 0, .int .i64 3]) ∧ Below w.heap.size w w' := by
  have hb : Below w.heap.size w (w.alloc (.cells #[.int .i64 k, .int .i64 c, .int .u32 r, .slice D n d] 25)) := (Below.refl _ _).alloc (Nat.le_refl _) _
  go_enter Try.func8, Try.ntmps8
  go_wp2_with fail
  refine (octet_any k _).mono ?_
  rintro e w' ⟨rfl, rfl⟩
  rw [decide_eq_true h]
  go_wp2_with fail
  refine (octet_any c _).mono ?_
  rintro e w' ⟨rfl, rfl⟩
  rw [decide_eq_true h']
  go_wp2_with fail
  go_ret2
  exact ⟨rfl, hb⟩
end Go.Proofs.Ytnphhikbdffmpaa
