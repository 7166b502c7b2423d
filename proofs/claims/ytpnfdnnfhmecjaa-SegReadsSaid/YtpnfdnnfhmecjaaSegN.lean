/-
  The walks of Flags at the example, and of Reset.
-/
import Derived.Test.YtpnfdnnfhmecjaaSegM
namespace Go.Proofs.Ytpnfdnnfhmecjaa
open Go.RowKit
set_option linter.unusedVariables false

set_option maxHeartbeats 2000000 in
set_option maxRecDepth 100000 in
theorem flags_ex (fr to_ sq ak wi ur gr : Int) (D : Option Addr) (n c : Nat) (w : World) :
    Calls Try.prog 33 #[.agg (segV fr to_ sq ak 2 wi ur gr D n c)] w fun e w' => e = .returned (.string ⟨#[83]⟩) ∧ Below w.heap.size w w' := by
  have hst : Blk (w.alloc (.cells (segV fr to_ sq ak 2 wi ur gr D n c) 26)) w.heap.size 26 (segV fr to_ sq ak 2 wi ur gr D n c) := blk_new _ _ _
  have hbl : Below w.heap.size w (w.alloc (.cells (segV fr to_ sq ak 2 wi ur gr D n c) 26)) := (Below.refl _ _).alloc (Nat.le_refl _) _
  have HX := Lib.hid hst
  have HB := Lib.hid hbl
  clear hst hbl
  go_enter Try.func33, Try.ntmps33
  go_wp2_with fail
  generalize w.alloc (.cells (segV fr to_ sq ak 2 wi ur gr D n c) 26) = v0 at *
  refine wp_loop_rounds 7 ?_
  rw [rounds_succ]
  obtain ⟨x0, x1, x2, x3, x4, x5, x6, x7, x8⟩ := HX.out.cells9
  go_wp2_with fail
  refine (has_at 2 0 false (by simp) fr to_ sq ak wi ur gr D n c _).mono ?_
  rintro e v1 ⟨rfl, hb⟩
  replace HB := Lib.hid (HB.out.trans (hb.mono HB.out.size))
  replace HX := Lib.hid (HX.out.below hb HX.out.lt)
  clear hb x0 x1 x2 x3 x4 x5 x6 x7 x8
  go_wp2_with fail
  rw [rounds_succ]
  obtain ⟨x0, x1, x2, x3, x4, x5, x6, x7, x8⟩ := HX.out.cells9
  go_wp2_with fail
  refine (has_at 2 1 true (by simp) fr to_ sq ak wi ur gr D n c _).mono ?_
  rintro e v2 ⟨rfl, hb⟩
  replace HB := Lib.hid (HB.out.trans (hb.mono HB.out.size))
  replace HX := Lib.hid (HX.out.below hb HX.out.lt)
  clear hb x0 x1 x2 x3 x4 x5 x6 x7 x8
  have HL := Lib.hid (bs_lit v2 [83])
  have HX2 := Lib.hid (blk_old HX.out (.cells #[.int .u8 83] 5))
  have HB2 := Lib.hid (HB.out.alloc HB.out.size (.cells #[.int .u8 83] 5))
  go_wp2_with (at_builtin; refine app_n _ rfl _ _ rfl v2.heap.size none 0 [] 0 rfl rfl (Own.nil _ _) (some ⟨v2.heap.size, 0, none⟩) 1 [83] 1 rfl rfl ⟨HL.out, by simp, by simp, fun h => by cases h⟩ (by decide) (by simp) ?_; intro A2 c2 v3 hown hg; have HO := Lib.hid hown)
  have hg2 : (v2.alloc (.cells #[.int .u8 83] 5)).grownBy v3 none := hg
  have hx3 : Blk v3 w.heap.size 26 (segV fr to_ sq ak 2 wi ur gr D n c) := (hg2.block w.heap.size HX2.out.lt (by simp)).trans HX2.out
  have HX3 := Lib.hid hx3
  have HB3 := Lib.hid (below_grown0 HB2.out hg2 (Nat.le_refl _))
  clear hx3 hown hg hg2 HX HB HX2 HB2 HL
  have HX := HX3
  have HB := HB3
  clear HX3 HB3
  rw [rounds_succ]
  obtain ⟨x0, x1, x2, x3, x4, x5, x6, x7, x8⟩ := HX.out.cells9
  go_wp2_with fail
  refine (has_at 2 2 false (by simp) fr to_ sq ak wi ur gr D n c _).mono ?_
  rintro e v4 ⟨rfl, hb⟩
  replace HB := Lib.hid (HB.out.trans (hb.mono HB.out.size))
  replace HX := Lib.hid (HX.out.below hb HX.out.lt)
  replace HO := Lib.hid (HO.out.keep hb)
  clear hb x0 x1 x2 x3 x4 x5 x6 x7 x8
  go_wp2_with fail
  rw [rounds_succ]
  obtain ⟨x0, x1, x2, x3, x4, x5, x6, x7, x8⟩ := HX.out.cells9
  go_wp2_with fail
  refine (has_at 2 3 false (by simp) fr to_ sq ak wi ur gr D n c _).mono ?_
  rintro e v5 ⟨rfl, hb⟩
  replace HB := Lib.hid (HB.out.trans (hb.mono HB.out.size))
  replace HX := Lib.hid (HX.out.below hb HX.out.lt)
  replace HO := Lib.hid (HO.out.keep hb)
  clear hb x0 x1 x2 x3 x4 x5 x6 x7 x8
  go_wp2_with fail
  rw [rounds_succ]
  obtain ⟨x0, x1, x2, x3, x4, x5, x6, x7, x8⟩ := HX.out.cells9
  go_wp2_with fail
  refine (has_at 2 4 false (by simp) fr to_ sq ak wi ur gr D n c _).mono ?_
  rintro e v6 ⟨rfl, hb⟩
  replace HB := Lib.hid (HB.out.trans (hb.mono HB.out.size))
  replace HX := Lib.hid (HX.out.below hb HX.out.lt)
  replace HO := Lib.hid (HO.out.keep hb)
  clear hb x0 x1 x2 x3 x4 x5 x6 x7 x8
  go_wp2_with fail
  rw [rounds_succ]
  obtain ⟨x0, x1, x2, x3, x4, x5, x6, x7, x8⟩ := HX.out.cells9
  go_wp2_with fail
  refine (has_at 2 5 false (by simp) fr to_ sq ak wi ur gr D n c _).mono ?_
  rintro e v7 ⟨rfl, hb⟩
  replace HB := Lib.hid (HB.out.trans (hb.mono HB.out.size))
  replace HX := Lib.hid (HX.out.below hb HX.out.lt)
  replace HO := Lib.hid (HO.out.keep hb)
  clear hb x0 x1 x2 x3 x4 x5 x6 x7 x8
  go_wp2_with fail
  rw [rounds_succ]
  have hstr : (convert 24 9 (.slice A2 1 c2)).run Try.prog v7 = .ok (.string ⟨#[83]⟩) v7 := HO.out.bs.str c2
  go_wp2_with fail
  go_ret
  exact ⟨rfl, HB.out⟩
def SomeU (w : World) (e : Ending) (w' : World) : Prop := (∃ v : Int, e = .returned (.int .u32 v) ∧ 0 ≤ v ∧ v < 4294967296) ∧ w = w'
theorem wrap_u32 (a : Int) : 0 ≤ IntKind.u32.wrap a ∧ IntKind.u32.wrap a < 4294967296 := by
  simp [IntKind.wrap, IntKind.bits, IntKind.signed]
  omega
theorem sadd_some (a n : Int) (w : World) :
    Calls Try.prog 40 #[.int .u32 a, .int .i64 n] w (SomeU w) := by
  go_enter Try.func40, Try.ntmps40
  go_wp2
  go_ret
  exact ⟨⟨_, rfl, by first | exact wrap_u32 _ | (constructor <;> omega)⟩, rfl⟩
def SomeI (w : World) (e : Ending) (w' : World) : Prop := (∃ v : Int, e = .returned (.int .i64 v)) ∧ Below w.heap.size w w'
set_option maxHeartbeats 2000000 in
set_option maxRecDepth 100000 in
theorem span_some (fr to_ sq ak fl wi ur gr : Int) (D : Option Addr) (n c : Nat) (w : World) :
    Calls Try.prog 32 #[.agg (segV fr to_ sq ak fl wi ur gr D n c)] w (SomeI w) := by
  have j0 : ∀ W : World, (Instr.index 71 (.agg #[.int .i64 1, .int .i64 0]) (.int .i64 0)).run Try.prog W = .ok (.int .i64 1) W := fun _ => by kernel_rfl
  have j1 : ∀ W : World, (Instr.index 71 (.agg #[.int .i64 1, .int .i64 0]) (.int .i64 1)).run Try.prog W = .ok (.int .i64 0) W := fun _ => by kernel_rfl
  go_enter Try.func32, Try.ntmps32
  go_wp2_with fail
  go_rounds 3
  all_goals
    go_ret
    refine ⟨⟨_, rfl⟩, ?_⟩
    go_grown
end Go.Proofs.Ytpnfdnnfhmecjaa
