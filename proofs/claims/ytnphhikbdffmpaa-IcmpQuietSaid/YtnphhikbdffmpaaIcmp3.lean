/-
  The walk of icmp.Read.
-/
import Derived.Test.YtnphhikbdffmpaaIcmp2
namespace Go.Proofs.Ytnphhikbdffmpaa
open Go.RowKit

theorem right_n (A : Option Addr) (bs : List UInt8) (n c : Nat) (w : World) (hn : bs.length = n) (hb : Bs w A bs) (hl : bs.length ≤ 9223372036854775807) :
    Calls Try.prog 26 #[.slice A n c] w fun e w' => e = .returned (.bool (rnd (words bs) == 65535)) ∧ Drawn w w' := by
  subst hn
  exact right_any A bs c w hb hl

theorem read_short (A : Option Addr) (n c : Nat) (w : World) (h : (n : Int) < 8) :
    Calls Try.prog 10 #[.slice A n c] w fun e w' => e = .returned (.tuple #[.agg #[.int .i64 0, .int .i64 0, .int .u32 0, .slice none 0 0], .int .i64 90]) ∧ Below w.heap.size w w' := by
  go_enter Try.func10, Try.ntmps10
  go_wp2_with fail
  exact bodyPost_ret (v := .tuple #[.agg #[.int .i64 0, .int .i64 0, .int .u32 0, .slice none 0 0], .int .i64 90]) (by simp [results, Try.results10, go_sem]) rfl ⟨rfl, (Below.refl _ _).alloc (Nat.le_refl _) _⟩
theorem read_wrong (A : Option Addr) (bs : List UInt8) (n c : Nat) (w : World) (hn : bs.length = n) (h : ¬ (n : Int) < 8) (hb : Bs w A bs) (hl : bs.length ≤ 9223372036854775807) (hr : rnd (words bs) ≠ 65535) :
    Calls Try.prog 10 #[.slice A n c] w fun e w' => e = .returned (.tuple #[.agg #[.int .i64 0, .int .i64 0, .int .u32 0, .slice none 0 0], .int .i64 90]) ∧ Below w.heap.size w w' := by
  have hbl : Below w.heap.size w (w.alloc (.cells #[.int .i64 0, .int .i64 0, .int .u32 0, .slice none 0 0] 25)) := (Below.refl _ _).alloc (Nat.le_refl _) _
  have hbb := Lib.hid (hb.below hbl)
  have hk := blk_new w 25 #[.int .i64 0, .int .i64 0, .int .u32 0, .slice none 0 0]
  have HN := Lib.hid hn
  have HL := Lib.hid hl
  clear hb hn hl
  go_enter Try.func10, Try.ntmps10
  go_wp2_with fail
  generalize w.alloc (.cells #[.int .i64 0, .int .i64 0, .int .u32 0, .slice none 0 0] 25) = w1 at *
  refine (right_n A bs n c _ HN.out hbb.out HL.out).mono ?_
  rintro e w2 ⟨rfl, hd⟩
  have ef : (rnd (words bs) == 65535) = false := by simpa using hr
  rw [ef]
  have hk2 : Blk w2 w.heap.size 25 #[.int .i64 0, .int .i64 0, .int .u32 0, .slice none 0 0] := hk.keep ((hd.below w1.heap.size).block _ hk.lt)
  have HB := Lib.hid (hbl.trans (hd.below w.heap.size))
  have c0 := hk2.cell 0
  have c1 := hk2.cell 1
  have c2 := hk2.cell 2
  have c3 := hk2.cell 3
  have f0 := hk2.free 0
  have f1 := hk2.free 1
  have f2 := hk2.free 2
  have f3 := hk2.free 3
  simp only [List.getElem?_toArray, List.getElem?_cons_zero, List.getElem?_cons_succ] at c0 c1 c2 c3
  clear hd hbl hk
  go_wp2_with fail
  have hk3 : Blk ((((w2.setCell ⟨w.heap.size, 0, none⟩ (.int .i64 0)).setCell ⟨w.heap.size, 1, none⟩ (.int .i64 0)).setCell ⟨w.heap.size, 2, none⟩ (.int .u32 0)).setCell ⟨w.heap.size, 3, none⟩ (.slice none 0 0)) w.heap.size 25 #[.int .i64 0, .int .i64 0, .int .u32 0, .slice none 0 0] :=
    (((hk2.set 0 _).set 1 _).set 2 _).set 3 _
  have hb3 := (((HB.out.setCell (p := ⟨w.heap.size, 0, none⟩) (Nat.le_refl _) (.int .i64 0)).setCell (p := ⟨w.heap.size, 1, none⟩) (Nat.le_refl _) (.int .i64 0)).setCell (p := ⟨w.heap.size, 2, none⟩) (Nat.le_refl _) (.int .u32 0)).setCell (p := ⟨w.heap.size, 3, none⟩) (Nat.le_refl _) (.slice none 0 0)
  generalize (((w2.setCell ⟨w.heap.size, 0, none⟩ (.int .i64 0)).setCell ⟨w.heap.size, 1, none⟩ (.int .i64 0)).setCell ⟨w.heap.size, 2, none⟩ (.int .u32 0)).setCell ⟨w.heap.size, 3, none⟩ (.slice none 0 0) = w3 at *
  have d0 := hk3.cell 0
  have d1 := hk3.cell 1
  have d2 := hk3.cell 2
  have d3 := hk3.cell 3
  simp only [List.getElem?_toArray, List.getElem?_cons_zero, List.getElem?_cons_succ] at d0 d1 d2 d3
  exact bodyPost_ret (v := .tuple #[.agg #[.int .i64 0, .int .i64 0, .int .u32 0, .slice none 0 0], .int .i64 90]) (by simp [results, Try.results10, go_sem, d0, d1, d2, d3]) rfl ⟨rfl, hb3⟩
end Go.Proofs.Ytnphhikbdffmpaa
