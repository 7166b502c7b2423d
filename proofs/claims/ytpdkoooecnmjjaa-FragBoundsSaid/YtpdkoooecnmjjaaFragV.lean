/-
  The walk of law08.works.
-/
import Derived.Test.YtpdkoooecnmjjaaFragU
namespace Go.Proofs.Ytpdkoooecnmjjaa
open Go.RowKit
set_option linter.unusedVariables false

theorem own_make (w : World) (B l c : Nat) (hB : B ≤ w.heap.size) (hl : l ≤ c) (hc : c ≤ 9223372036854775807) :
    Own (w.alloc (.cells (madeCells #[.int .u8 0] c) 5)) B (some ⟨w.heap.size, 0, none⟩) c (List.replicate l 0) := by
  refine ⟨by simp, .inr ⟨w.heap.size, c, _, by simp, hB, heap_alloc_new w _, by simpa using hl, by simpa [maxLen] using hc, by rw [size_madeCells, Nat.mul_one], ?_⟩⟩
  rw [toList_madeCells_one]
  simp [bval]
  omega
theorem make_bytes (l c : Nat) (hl : l ≤ c) (h : c ≤ 70000) (W : World) : (Instr.makeSlice 31 (.int .i64 (l : Int)) (.int .i64 (c : Int))).run Try.prog W = .ok (.slice (some ⟨W.heap.size, 0, none⟩) l c) (W.alloc (.cells (madeCells #[.int .u8 0] c) 5)) := by
  obtain ⟨i0, hi, hz0, hz1, hz2⟩ := info_parts info_u8
  have := run_make (P := Try.prog) W 31 5 i0 (.int .u8 0) Try.underlying31 hi hz0 .i64 .i64 l c (by omega) (by omega) (by rw [hz2]; omega) (by omega)
  rw [Int.toNat_natCast, Int.toNat_natCast, hz1, Nat.mul_one] at this
  exact this
theorem own_lit3 (w : World) (B : Nat) (hB : B ≤ w.heap.size) : Own (w.alloc (.cells #[.int .u8 1, .int .u8 2, .int .u8 3] 5)) B (some ⟨w.heap.size, 0, none⟩) 3 [1, 2, 3] :=
  ⟨by simp, .inr ⟨w.heap.size, 3, _, rfl, hB, heap_alloc_new w _, by decide, by decide, by simp, by simp [bval]⟩⟩
/-- A row made behind a table is none of its wholes'. -/
theorem TAt.apart_new {w : World} {B tb c : Nat} {wait now : Int} {A : Option Addr} {L : List WX} (t : TAt w B tb wait now A c L) {w' : World} {Bd : Nat} {D : Option Addr} {q : Nat} {d : List UInt8} (h : Own w' Bd D q d) (hB : w.heap.size ≤ Bd) : ∀ x ∈ L, ∀ k, (Value.slice D d.length q).ownBlock = some k → dblk x ≠ some k := by
  intro x hx k hk h2
  have h3 := (World.ownsRow.lt h k hk).1
  have h4 := WF.lt (t.each x hx) k (.inr (.inl h2))
  omega
set_option maxHeartbeats 8000000 in
set_option maxRecDepth 100000 in
theorem works_any (w : World) : Calls Try.prog 5 #[] w fun e w' => e = .returned (.bool true) ∧ Below w.heap.size w w' := by
  have mk : ∀ W : World, (Instr.makeSlice 31 (.int .i64 8) (.int .i64 8)).run Try.prog W = .ok (.slice (some ⟨W.heap.size, 0, none⟩) 8 8) (W.alloc (.cells (madeCells #[.int .u8 0] 8) 5)) := fun W => make_bytes 8 8 (by omega) (by omega) W
  go_enter Try.func5, Try.ntmps5
  go_wp2_with fail
  refine (fnew_any 10 _ (by omega) (by omega)).mono ?_
  rintro e w1 ⟨rfl, t1, hb1⟩
  have T1 := Lib.hid t1
  have HB1 := Lib.hid hb1
  clear t1 hb1
  go_upto_region 4 with fail
  have ho : Own (w1.alloc (.cells (madeCells #[.int .u8 0] 8) 5)) w1.heap.size (some ⟨w1.heap.size, 0, none⟩) 8 [0, 0, 0, 0, 0, 0, 0, 0] := own_make w1 w1.heap.size 8 8 (Nat.le_refl _) (Nat.le_refl _) (by omega)
  have hb : Below w1.heap.size w1 (w1.alloc (.cells (madeCells #[.int .u8 0] 8) 5)) := (Below.refl _ _).alloc (Nat.le_refl _) _
  have ADD := Lib.hid (fadd_any (T1.out.below hb) (by simp) 0 3 0 0 0 false true 0 0 _ 8 8 [0, 0, 0, 0, 0, 0, 0, 0] rfl (by omega) ho (T1.out.apart_new ho (Nat.le_refl _)))
  have HBA := Lib.hid hb
  clear ho hb
  go_wp2_with fail
  refine ADD.out.mono ?_
  rintro e w2 h
  obtain ⟨A2, c2, x, rfl, hb2, t2, hx⟩ := works1 h
  have T2 := Lib.hid t2
  have HB2 := Lib.hid (((HB1.out).trans (HBA.out.mono HB1.out.size)).trans hb2)
  have HX := Lib.hid hx
  clear h t2 hb2 hx ADD HBA T1 HB1
  go_wp2_with fail
  have hb3 : Below w2.heap.size w2 ((w2.alloc (.cells (pkV 0 0 0 0 false false 0 0 none 0 0) 33)).alloc (.cells #[.int .u8 1, .int .u8 2, .int .u8 3] 5)) := ((Below.refl _ _).alloc (Nat.le_refl _) _).alloc (by simp) _
  have ho3 : Own ((w2.alloc (.cells (pkV 0 0 0 0 false false 0 0 none 0 0) 33)).alloc (.cells #[.int .u8 1, .int .u8 2, .int .u8 3] 5)) w2.heap.size (some ⟨w2.heap.size + 1, 0, none⟩) 3 [1, 2, 3] := by
    have := own_lit3 (w2.alloc (.cells (pkV 0 0 0 0 false false 0 0 none 0 0) 33)) w2.heap.size (by simp)
    simpa using this
  have ADD := Lib.hid (fadd_any (T2.out.below hb3) (by simp) 1 3 1 0 0 false false 0 0 _ 3 3 [1, 2, 3] rfl (by omega) ho3 (T2.out.apart_new ho3 (Nat.le_refl _)))
  have HB3 := Lib.hid (HB2.out.trans (hb3.mono HB2.out.size))
  clear hb3 ho3
  generalize ((w2.alloc (.cells (pkV 0 0 0 0 false false 0 0 none 0 0) 33)).alloc (.cells #[.int .u8 1, .int .u8 2, .int .u8 3] 5)) = w3 at ADD HB3 ⊢
  refine ADD.out.mono ?_
  rintro e w4 h
  obtain ⟨hb4, i1, i2, i3, i4, b1, b2, i5, i6, D, q, rfl, ho⟩ := works2 HX.out h
  have HB4 := Lib.hid (HB3.out.trans hb4)
  have HO := Lib.hid ho
  clear h hb4 ho ADD HB2 T2 HX HB3
  have HK := Lib.hid (blk_new w4 33 (pkV i1 i2 i3 i4 b1 b2 i5 i6 D 11 q))
  have hb5 : Below w4.heap.size w4 (w4.alloc (.cells (pkV i1 i2 i3 i4 b1 b2 i5 i6 D 11 q) 33)) := (Below.refl _ _).alloc (Nat.le_refl _) _
  have HBF := Lib.hid (HB4.out.trans (hb5.mono HB4.out.size))
  have HOF := Lib.hid (HO.out.keep hb5)
  clear hb5
  go_upto_region 6 with fail
  generalize w4.alloc (.cells (pkV i1 i2 i3 i4 b1 b2 i5 i6 D 11 q) 33) = w5 at HK HBF HOF ⊢
  have c8 : w5.cell? ⟨w4.heap.size, 8, none⟩ = some (.slice D 11 q) := HK.out.cell 8
  obtain ⟨g, rfl, _, _⟩ := HOF.out.form (by decide)
  have c10 : w5.cell? ⟨g, 10, none⟩ = some (.int .u8 3) := HOF.out.cell 10 (by decide)
  go_wp2_with fail
  go_ret
  exact ⟨rfl, HBF.out⟩
end Go.Proofs.Ytpdkoooecnmjjaa
