/-
  The walks of has, Span, Reset, and of Flags at the example.
-/
import Derived.Test.YtpnfdnnfhmecjaaSegK
import Derived.Deep.DeepCutAuto
namespace Go.Proofs.Ytpnfdnnfhmecjaa
open Go.RowKit
set_option linter.unusedVariables false

def SomeB (w : World) (e : Ending) (w' : World) : Prop := (∃ b, e = .returned (.bool b)) ∧ Below w.heap.size w w'
set_option maxRecDepth 100000 in
theorem has_some (fr to_ sq ak fl wi ur gr : Int) (D : Option Addr) (n c : Nat) (k : Int) (w : World) (k0 : 0 ≤ k) (k1 : k < 64) :
    Calls Try.prog 39 #[.agg (segV fr to_ sq ak fl wi ur gr D n c), .int .i64 k] w (SomeB w) := by
  go_enter Try.func39, Try.ntmps39
  go_wp2_with fail
  all_goals
    go_ret
    refine ⟨⟨_, rfl⟩, ?_⟩
    go_grown
def hasV (fl k : Nat) : Bool := fl / 2 ^ k % 2 == 1
set_option maxRecDepth 100000 in
theorem has_at (fl k : Int) (b : Bool) (h : (fl, k, b) ∈ [((2 : Int), (0 : Int), false), (2, 1, true), (2, 2, false), (2, 3, false), (2, 4, false), (2, 5, false), (4, 2, true), (20, 2, true)]) (fr to_ sq ak wi ur gr : Int) (D : Option Addr) (n c : Nat) (w : World) :
    Calls Try.prog 39 #[.agg (segV fr to_ sq ak fl wi ur gr D n c), .int .i64 k] w fun e w' => e = .returned (.bool b) ∧ Below w.heap.size w w' := by
  simp only [List.mem_cons, Prod.mk.injEq, List.not_mem_nil, or_false] at h
  rcases h with ⟨rfl, rfl, rfl⟩ | ⟨rfl, rfl, rfl⟩ | ⟨rfl, rfl, rfl⟩ | ⟨rfl, rfl, rfl⟩ | ⟨rfl, rfl, rfl⟩ | ⟨rfl, rfl, rfl⟩ | ⟨rfl, rfl, rfl⟩ | ⟨rfl, rfl, rfl⟩
  all_goals
    go_enter Try.func39, Try.ntmps39
    go_wp2_with fail
    go_ret
    refine ⟨by first | rfl | decide, ?_⟩
    go_grown
set_option maxHeartbeats 2000000 in
set_option maxRecDepth 100000 in
theorem span_ex (fr to_ sq ak wi ur gr : Int) (D : Option Addr) (c : Nat) (w : World) :
    Calls Try.prog 32 #[.agg (segV fr to_ sq ak 2 wi ur gr D 0 c)] w fun e w' => e = .returned (.int .i64 1) ∧ Below w.heap.size w w' := by
  have j0 : ∀ W : World, (Instr.index 71 (.agg #[.int .i64 1, .int .i64 0]) (.int .i64 0)).run Try.prog W = .ok (.int .i64 1) W := fun _ => by kernel_rfl
  have j1 : ∀ W : World, (Instr.index 71 (.agg #[.int .i64 1, .int .i64 0]) (.int .i64 1)).run Try.prog W = .ok (.int .i64 0) W := fun _ => by kernel_rfl
  go_enter Try.func32, Try.ntmps32
  go_wp2_with fail
  go_rounds 3
  go_ret
  refine ⟨by first | rfl | decide, ?_⟩
  go_grown
end Go.Proofs.Ytpnfdnnfhmecjaa
