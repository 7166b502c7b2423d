/-
  The walk of the law FragVoid.
-/
import Derived.Test.YtpdkoooecnmjjaaFragV
namespace Go.Proofs.Ytpdkoooecnmjjaa
open Go.RowKit
set_option linter.unusedVariables false

set_option maxHeartbeats 8000000 in
set_option maxRecDepth 100000 in
theorem fragVoid_walk (now : Int) (id at_ life kind : Int) (wh mo : Bool) (f t : Int) (D : Option Addr) (n q : Nat) (w : World) :
    Calls Try.prog 4 #[.int .i64 now, .agg (pkV id at_ life kind wh mo f t D n q)] w fun e w' => e = .returned (.bool true) ∧ Below w.heap.size w w' := by
  have hb0 : Below w.heap.size w (w.alloc (.cells (pkV id at_ life kind wh mo f t D n q) 33)) := (Below.refl _ _).alloc (Nat.le_refl _) _
  have HP0 := Lib.hid (blk_new w 33 (pkV id at_ life kind wh mo f t D n q))
  have HB0 := Lib.hid hb0
  clear hb0
  go_enter Try.func4, Try.ntmps4
  go_upto_region 1 with fail
  generalize w.alloc (.cells (pkV id at_ life kind wh mo f t D n q) 33) = w0 at HP0 HB0 ⊢
  obtain ⟨gp, EGP⟩ : ∃ z, Hid (w.heap.size = z) := ⟨_, rfl⟩
  rw [EGP.out] at HP0 ⊢
  go_wp2_with fail
  refine (works_any _).mono ?_
  rintro e w1 ⟨rfl, hb⟩
  have HP1 := Lib.hid (HP0.out.below hb HP0.out.lt)
  have HB1 := Lib.hid (HB0.out.trans (hb.mono HB0.out.size))
  clear hb
  go_upto_region 4 with fail
  have hbt : Below w1.heap.size w1 (w1.alloc (.cells #[.int .i64 0, .int .i64 0, .slice none 0 0, .bool false] 45)) := (Below.refl _ _).alloc (Nat.le_refl _) _
  have hv : VoidT (w1.alloc (.cells #[.int .i64 0, .int .i64 0, .slice none 0 0, .bool false] 45)) (some ⟨w1.heap.size, 0, none⟩) := .inr ⟨_, rfl, Blk.cell (blk_new w1 45 #[.int .i64 0, .int .i64 0, .slice none 0 0, .bool false]) 3⟩
  have HV2 := Lib.hid hv
  have HP2 := Lib.hid (HP1.out.below hbt HP1.out.lt)
  have HB2 := Lib.hid (HB1.out.trans (hbt.mono HB1.out.size))
  clear hbt hv
  go_upto_region 5 with fail
  generalize w1.alloc (.cells #[.int .i64 0, .int .i64 0, .slice none 0 0, .bool false] 45) = w2 at HV2 HP2 HB2 ⊢
  obtain ⟨gz, EGZ⟩ : ∃ z, Hid (w1.heap.size = z) := ⟨_, rfl⟩
  rw [EGZ.out] at HV2 ⊢
  obtain ⟨x0, x1, x2, x3, x4, x5, x6, x7, x8⟩ := HP2.out.cells9
  go_wp2_with fail
  refine (fadd_v none w2 (.inl rfl) now id at_ life kind wh mo f t D n q).mono ?_
  rintro e w3 ⟨rfl, hb⟩
  have hb' : Below w2.heap.size w2 (w3.alloc (.cells (pkV 0 0 0 0 false false 0 0 none 0 0) 33)) := hb.alloc hb.size _
  have HV3 := Lib.hid (HV2.out.below hb')
  have HP3 := Lib.hid (HP2.out.below hb' HP2.out.lt)
  have HB3 := Lib.hid (HB2.out.trans (hb'.mono HB2.out.size))
  clear hb hb' x0 x1 x2 x3 x4 x5 x6 x7 x8
  go_upto_region 6 with fail
  generalize w3.alloc (.cells (pkV 0 0 0 0 false false 0 0 none 0 0) 33) = w4 at HV3 HP3 HB3 ⊢
  obtain ⟨x0, x1, x2, x3, x4, x5, x6, x7, x8⟩ := HP3.out.cells9
  go_wp2_with fail
  refine (fadd_v _ w4 HV3.out now id at_ life kind wh mo f t D n q).mono ?_
  rintro e w5 ⟨rfl, hb⟩
  have hb' : Below w4.heap.size w4 (w5.alloc (.cells (pkV 0 0 0 0 false false 0 0 none 0 0) 33)) := hb.alloc hb.size _
  have HV5 := Lib.hid (HV3.out.below hb')
  have HB5 := Lib.hid (HB3.out.trans (hb'.mono HB3.out.size))
  clear hb hb' x0 x1 x2 x3 x4 x5 x6 x7 x8
  go_upto_region 7 with fail
  generalize w5.alloc (.cells (pkV 0 0 0 0 false false 0 0 none 0 0) 33) = w6 at HV5 HB5 ⊢
  go_wp2_with fail
  refine (fage_v none _ _ (.inl rfl)).mono ?_
  rintro e w7 ⟨rfl, rfl⟩
  go_wp2_with fail
  refine (fage_v _ _ _ HV5.out).mono ?_
  rintro e w7 ⟨rfl, rfl⟩
  go_wp2_with fail
  refine (flen_v none _ (.inl rfl)).mono ?_
  rintro e w7 ⟨rfl, rfl⟩
  go_wp2_with fail
  refine (flen_v _ _ HV5.out).mono ?_
  rintro e w7 ⟨rfl, rfl⟩
  go_wp2_with fail
  go_ret
  exact ⟨rfl, HB5.out⟩
end Go.Proofs.Ytpdkoooecnmjjaa
