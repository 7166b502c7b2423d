/-
  The walks of find's closure and of find.
-/
import Derived.Test.YtpdkoooecnmjjaaFragF
namespace Go.Proofs.Ytpdkoooecnmjjaa
open Go.RowKit
set_option linter.unusedVariables false

theorem key_eql (a b c d a' b' c' d' : Int) (W : World) : (binOp .eql 56 (.agg (keyV a b c d)) (.agg (keyV a' b' c' d'))).run Try.prog W = .ok (.bool (keyB a b c d a' b' c' d')) W := by
  rw [run_eql_struct, key_eq]
  rfl
attribute [-go_sem] run_eql_struct run_equalIn_agg
theorem below_dr1 {w w' : World} (h : Below w.drew.heap.size w.drew w') : Below w.heap.size w w' := ⟨h.os, h.tape, h.output, h.size, h.block⟩
set_option maxHeartbeats 4000000 in
set_option maxRecDepth 100000 in
theorem find1_any (W : World) (g gp : Nat) (a b c d : Int) (id at_ life kind : Int) (wh mo : Bool) (f t : Int) (D : Option Addr) (n q : Nat)
    (k0 : W.cell? ⟨g, 0, none⟩ = some (.int .u32 a)) (k1 : W.cell? ⟨g, 1, none⟩ = some (.int .u32 b)) (k2 : W.cell? ⟨g, 2, none⟩ = some (.int .i64 c)) (k3 : W.cell? ⟨g, 3, none⟩ = some (.int .i64 d)) (hp : Blk W gp 33 (pkV id at_ life kind wh mo f t D n q)) :
    Calls Try.prog 27 #[PV g, .pointer (some ⟨gp, 0, none⟩)] W fun e w' => e = .returned (.bool (keyB a b c d f t kind id)) ∧ Below W.heap.size W w' := by
  obtain ⟨z, HZ⟩ : ∃ z, Hid (keyB a b c d f t kind id = z) := ⟨_, rfl⟩
  rw [HZ.out]
  have HQ : Hid (∀ W, (binOp .eql 56 (.agg (keyV a b c d)) (.agg (keyV f t kind id))).run Try.prog W = .ok (.bool z) W) := by
    intro W; rw [key_eql, HZ.out]
  go_enter Try.func27, Try.ntmps27
  go_upto_region 1 with fail
  obtain ⟨p0, p1, p2, p3, p4, p5, p6, p7, p8⟩ := hp.cells9
  have HP := Lib.hid hp
  have L0 := World.block_lt_of_cell? W _ k0
  simp at L0
  clear hp
  go_region_held3 (fun w' => (w'.cell? ⟨g, 0, none⟩ = some (.int .u32 a) ∧ w'.cell? ⟨g, 1, none⟩ = some (.int .u32 b) ∧ w'.cell? ⟨g, 2, none⟩ = some (.int .i64 c) ∧ w'.cell? ⟨g, 3, none⟩ = some (.int .i64 d)) ∧ (w'.cell? ⟨gp, 0, none⟩ = some (.int .i64 id) ∧ w'.cell? ⟨gp, 1, none⟩ = some (.int .i64 at_) ∧ w'.cell? ⟨gp, 2, none⟩ = some (.int .i64 life) ∧ w'.cell? ⟨gp, 3, none⟩ = some (.int .i64 kind) ∧ w'.cell? ⟨gp, 4, none⟩ = some (.bool wh) ∧ w'.cell? ⟨gp, 5, none⟩ = some (.bool mo) ∧ w'.cell? ⟨gp, 6, none⟩ = some (.int .u32 f) ∧ w'.cell? ⟨gp, 7, none⟩ = some (.int .u32 t) ∧ w'.cell? ⟨gp, 8, none⟩ = some (.slice D n q)))
    (first | (with_reducible assumption) | (exact ⟨⟨k0, k1, k2, k3⟩, HP.out.cells9⟩) | (exact ⟨⟨K0.out, K1.out, K2.out, K3.out⟩, HP7.out.cells9⟩) | (refine ⟨⟨?_, ?_, ?_, ?_⟩, ?_, ?_, ?_, ?_, ?_, ?_, ?_, ?_, ?_⟩ <;> (with_reducible assumption)))
    ((go_at_call 28
      refine (keyOf_any id at_ life kind wh mo f t D n q _).mono ?_
      rintro e w7 ⟨rfl, hb⟩
      have HB7 := Lib.hid (below_dr1 hb)
      have HP7 := Lib.hid (HP.out.below (below_dr1 hb) HP.out.lt)
      have K0 := Lib.hid (((below_dr1 hb).cell (p := ⟨g, 0, none⟩) L0).trans k0)
      have K1 := Lib.hid (((below_dr1 hb).cell (p := ⟨g, 1, none⟩) L0).trans k1)
      have K2 := Lib.hid (((below_dr1 hb).cell (p := ⟨g, 2, none⟩) L0).trans k2)
      have K3 := Lib.hid (((below_dr1 hb).cell (p := ⟨g, 3, none⟩) L0).trans k3)
      have hq := HQ.out
      clear hb))
  all_goals
    go_wp2_with fail
    go_ret
    exact ⟨rfl, HB7.out⟩
end Go.Proofs.Ytpdkoooecnmjjaa
