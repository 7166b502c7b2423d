/-
  The walk of ip.Build.
-/
import Derived.Test.YtpdkoooecnmjjaaIpPut
import Derived.Test.YtpdkoooecnmjjaaBits
import Derived.Test.YtpdkoooecnmjjaaSumFns
namespace Go.Proofs.Ytpdkoooecnmjjaa
open Go.RowKit

/-- Do a packet's numbers have room? -/
def rightP (id at_ life kind : Int) : Prop := (0 ≤ at_ ∧ at_ ≤ 8191) ∧ (0 ≤ id ∧ id ≤ 65535) ∧ (0 ≤ life ∧ life ≤ 255) ∧ (0 ≤ kind ∧ kind ≤ 255)
instance (a b c d : Int) : Decidable (rightP a b c d) := by unfold rightP; infer_instance

abbrev packet (id at_ life kind : Int) (wh mo : Bool) (f t : Int) (D : Option Addr) (n c : Nat) : Array Value :=
  #[.int .i64 id, .int .i64 at_, .int .i64 life, .int .i64 kind, .bool wh, .bool mo, .int .u32 f, .int .u32 t, .slice D n c]

theorem ipright_any (id at_ life kind : Int) (wh mo : Bool) (f t : Int) (D : Option Addr) (n c : Nat) (w : World) :
    Calls Try.prog 31 #[.agg (packet id at_ life kind wh mo f t D n c)] w fun e w' => e = .returned (.bool (decide (rightP id at_ life kind))) ∧ Below w.heap.size w w' := by
  have j0 : ∀ W : World, (Instr.index 77 (.agg #[.int .i64 at_, .int .i64 8191, .int .i64 id, .int .i64 65535, .int .i64 life, .int .i64 255, .int .i64 kind, .int .i64 255]) (.int .i64 0)).run Try.prog W = .ok (.agg #[.int .i64 at_, .int .i64 8191]) W := fun _ => by kernel_rfl
  have j1 : ∀ W : World, (Instr.index 77 (.agg #[.int .i64 at_, .int .i64 8191, .int .i64 id, .int .i64 65535, .int .i64 life, .int .i64 255, .int .i64 kind, .int .i64 255]) (.int .i64 1)).run Try.prog W = .ok (.agg #[.int .i64 id, .int .i64 65535]) W := fun _ => by kernel_rfl
  have j2 : ∀ W : World, (Instr.index 77 (.agg #[.int .i64 at_, .int .i64 8191, .int .i64 id, .int .i64 65535, .int .i64 life, .int .i64 255, .int .i64 kind, .int .i64 255]) (.int .i64 2)).run Try.prog W = .ok (.agg #[.int .i64 life, .int .i64 255]) W := fun _ => by kernel_rfl
  have j3 : ∀ W : World, (Instr.index 77 (.agg #[.int .i64 at_, .int .i64 8191, .int .i64 id, .int .i64 65535, .int .i64 life, .int .i64 255, .int .i64 kind, .int .i64 255]) (.int .i64 3)).run Try.prog W = .ok (.agg #[.int .i64 kind, .int .i64 255]) W := fun _ => by kernel_rfl
  go_enter Try.func31, Try.ntmps31
  go_wp2_with fail
  go_rounds 5
  all_goals
    go_ret
    refine ⟨congrArg (fun b => Ending.returned (.bool b)) ?_, ?_⟩
    · clear j0 j1 j2 j3
      first | exact (decide_eq_true (by unfold rightP; omega)).symm | exact (decide_eq_false (by unfold rightP; omega)).symm
    · go_grown
def flagsP (at_ : Int) (wh mo : Bool) : Int := at_ + (if wh then 16384 else 0) + (if mo then 8192 else 0)
set_option maxRecDepth 100000 in
theorem fl_both (a : Int) (h0 : 0 ≤ a) (h1 : a ≤ 8191) : bits .or .i64 (a + 16384) 8192 = a + 16384 + 8192 := by
  obtain ⟨n, rfl⟩ := Int.eq_ofNat_of_zero_le h0
  have h := i64_or_nat (n + 16384) 8192 (by omega) (by omega)
  have e1 : 1 * 2 ^ 14 ||| n = 1 * 2 ^ 14 + n := or_high 1 n 14 (by omega)
  have e2 : n ||| 2 ^ 13 = n + 2 ^ 13 := or_pow n 13 (by omega)
  have e3 : 1 * 2 ^ 14 ||| (n + 2 ^ 13) = 1 * 2 ^ 14 + (n + 2 ^ 13) := or_high 1 (n + 2 ^ 13) 14 (by omega)
  rw [← e2, ← Nat.or_assoc, e1] at e3
  have e : (n + 16384) ||| 8192 = n + 16384 + 8192 := by
    have e4 : 1 * 2 ^ 14 + n = n + 16384 := by omega
    rw [e4] at e3
    have e5 : (2 : Nat) ^ 13 = 8192 := by decide
    rw [e5] at e3 e2
    rw [e3, e2]
    omega
  rw [e] at h
  have e6 : ((n + 16384 : Nat) : Int) = (n : Int) + 16384 := by omega
  have e7 : ((n + 16384 + 8192 : Nat) : Int) = (n : Int) + 16384 + 8192 := by omega
  rw [e6, e7] at h
  exact h
theorem ipflags_any (id at_ life kind : Int) (wh mo : Bool) (f t : Int) (D : Option Addr) (n c : Nat) (w : World) (h0 : 0 ≤ at_) (h1 : at_ ≤ 8191) :
    Calls Try.prog 33 #[.agg (packet id at_ life kind wh mo f t D n c)] w fun e w' => e = .returned (.int .i64 (flagsP at_ wh mo)) ∧ Below w.heap.size w w' := by
  have hb : Below w.heap.size w (w.alloc (.cells (packet id at_ life kind wh mo f t D n c) 33)) := (Below.refl _ _).alloc (Nat.le_refl _) _
  cases wh <;> cases mo
  all_goals
    go_enter Try.func33, Try.ntmps33
    go_wp2
    go_ret
    refine ⟨ret_int ?_, hb⟩
    have o1 := i64_or_pow at_ 14 h0 (by omega) (by omega)
    have o2 := i64_or_pow at_ 13 h0 (by omega) (by omega)
    have o3 := fl_both at_ h0 h1
    simp at o1 o2 o3
    simp [flagsP, o1, o2, o3]
    try omega
end Go.Proofs.Ytpdkoooecnmjjaa
