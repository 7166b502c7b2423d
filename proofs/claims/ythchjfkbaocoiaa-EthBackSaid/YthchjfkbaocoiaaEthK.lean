/-
  eth.Read.
-/
import Derived.Test.YthchjfkbaocoiaaEthJ
namespace Go.Proofs.Ythchjfkbaocoiaa
open Go.RowKit
set_option linter.unusedVariables false

def okLen (n : Nat) : Prop := 60 ≤ n ∧ n ≤ 1514
instance (n : Nat) : Decidable (okLen n) := inferInstanceAs (Decidable (_ ∧ _))
def readTo (bs : List UInt8) : List UInt8 := if okLen bs.length then bs.take 6 else [0, 0, 0, 0, 0, 0]
def readFr (bs : List UInt8) : List UInt8 := if okLen bs.length then (bs.drop 6).take 6 else [0, 0, 0, 0, 0, 0]
def readKind (bs : List UInt8) : Int := if okLen bs.length then 256 * ((bs.getD 12 0).toNat : Int) + ((bs.getD 13 0).toNat : Int) else 0
def readD (bs : List UInt8) : List UInt8 := if okLen bs.length then bs.drop 14 else []
def readE (bs : List UInt8) : Int := if okLen bs.length then 0 else 50
/-- What Read answers, both of them. -/
def EGot (bs : List UInt8) (w : World) (e : Ending) (w' : World) : Prop :=
  ∃ X x, e = .returned (.tuple #[.agg (frameV (readTo bs) (readFr bs) (readKind bs) X (readD bs).length x), .int .i64 (readE bs)]) ∧ Own w' w.heap.size X x (readD bs) ∧ Below w.heap.size w w'

set_option maxHeartbeats 4000000 in
set_option maxRecDepth 100000 in
theorem read_wrong (A : Option Addr) (bs : List UInt8) (n c : Nat) (w : World) (hn : bs.length = n) (hl : n ≤ 9223372036854775807) (hw : ¬ okLen n) :
    Calls Try.prog 23 #[.slice A n c] w (EGot bs w) := by
  have hb : Below w.heap.size w (w.alloc (.cells #[.int .u8 0, .int .u8 0, .int .u8 0, .int .u8 0, .int .u8 0, .int .u8 0, .int .u8 0, .int .u8 0, .int .u8 0, .int .u8 0, .int .u8 0, .int .u8 0, .int .u16 0, .slice none 0 0] 37)) := (Below.refl _ _).alloc (Nat.le_refl _) _
  have h0 := blk_new w 37 #[.int .u8 0, .int .u8 0, .int .u8 0, .int .u8 0, .int .u8 0, .int .u8 0, .int .u8 0, .int .u8 0, .int .u8 0, .int .u8 0, .int .u8 0, .int .u8 0, .int .u16 0, .slice none 0 0]
  have HW : Hid (¬ okLen bs.length) := by show ¬ _; rw [hn]; exact hw
  have hcase : (n : Int) < 60 ∨ (¬ (n : Int) < 60 ∧ (1514 : Int) < n) := by unfold okLen at hw; omega
  have HB := Lib.hid hb
  have H0 := Lib.hid h0
  clear hb h0 hn hw
  rcases hcase with hq | ⟨hq, hq2⟩
  all_goals
    go_enter Try.func23, Try.ntmps23
    go_upto_region 1 with fail
    generalize w.alloc (.cells #[.int .u8 0, .int .u8 0, .int .u8 0, .int .u8 0, .int .u8 0, .int .u8 0, .int .u8 0, .int .u8 0, .int .u8 0, .int .u8 0, .int .u8 0, .int .u8 0, .int .u16 0, .slice none 0 0] 37) = w1 at *
    have st := H0.out.store14 (.int .u8 0) (.int .u8 0) (.int .u8 0) (.int .u8 0) (.int .u8 0) (.int .u8 0) (.int .u8 0) (.int .u8 0) (.int .u8 0) (.int .u8 0) (.int .u8 0) (.int .u8 0) (.int .u16 0) (.slice none 0 0)
    obtain ⟨m0, m1, m2, m3, m4, m5, m6, m7, m8, m9, m10, m11, m12, m13⟩ := H0.out.cells14
    obtain ⟨f0, f1, f2, f3, f4, f5, f6, f7, f8, f9, f10, f11, f12, f13⟩ := H0.out.frees14
    have ST := Lib.hid st
    clear st
    go_wp2_with fail
    have FIN : Hid (EGot bs w (.returned (.tuple #[.agg #[.int .u8 0, .int .u8 0, .int .u8 0, .int .u8 0, .int .u8 0, .int .u8 0, .int .u8 0, .int .u8 0, .int .u8 0, .int .u8 0, .int .u8 0, .int .u8 0, .int .u16 0, .slice none 0 0], .int .i64 50])) (((((((((((((((w1).setCell ⟨w.heap.size, 0, none⟩ (.int .u8 0)).setCell ⟨w.heap.size, 1, none⟩ (.int .u8 0)).setCell ⟨w.heap.size, 2, none⟩ (.int .u8 0)).setCell ⟨w.heap.size, 3, none⟩ (.int .u8 0)).setCell ⟨w.heap.size, 4, none⟩ (.int .u8 0)).setCell ⟨w.heap.size, 5, none⟩ (.int .u8 0)).setCell ⟨w.heap.size, 6, none⟩ (.int .u8 0)).setCell ⟨w.heap.size, 7, none⟩ (.int .u8 0)).setCell ⟨w.heap.size, 8, none⟩ (.int .u8 0)).setCell ⟨w.heap.size, 9, none⟩ (.int .u8 0)).setCell ⟨w.heap.size, 10, none⟩ (.int .u8 0)).setCell ⟨w.heap.size, 11, none⟩ (.int .u8 0)).setCell ⟨w.heap.size, 12, none⟩ (.int .u16 0)).setCell ⟨w.heap.size, 13, none⟩ (.slice none 0 0))) :=
      ⟨none, 0, by simp only [readTo, readFr, readKind, readD, readE, if_neg HW.out]; rfl, by rw [readD, if_neg HW.out]; exact Own.nil _ _, below_grown HB.out ST.out.2 (Nat.le_refl _) (Nat.le_refl _)⟩
    obtain ⟨d0, d1, d2, d3, d4, d5, d6, d7, d8, d9, d10, d11, d12, d13⟩ := ST.out.1.cells14
    clear m0 m1 m2 m3 m4 m5 m6 m7 m8 m9 m10 m11 m12 m13 f0 f1 f2 f3 f4 f5 f6 f7 f8 f9 f10 f11 f12 f13 ST
    generalize ((((((((((((((w1).setCell ⟨w.heap.size, 0, none⟩ (.int .u8 0)).setCell ⟨w.heap.size, 1, none⟩ (.int .u8 0)).setCell ⟨w.heap.size, 2, none⟩ (.int .u8 0)).setCell ⟨w.heap.size, 3, none⟩ (.int .u8 0)).setCell ⟨w.heap.size, 4, none⟩ (.int .u8 0)).setCell ⟨w.heap.size, 5, none⟩ (.int .u8 0)).setCell ⟨w.heap.size, 6, none⟩ (.int .u8 0)).setCell ⟨w.heap.size, 7, none⟩ (.int .u8 0)).setCell ⟨w.heap.size, 8, none⟩ (.int .u8 0)).setCell ⟨w.heap.size, 9, none⟩ (.int .u8 0)).setCell ⟨w.heap.size, 10, none⟩ (.int .u8 0)).setCell ⟨w.heap.size, 11, none⟩ (.int .u8 0)).setCell ⟨w.heap.size, 12, none⟩ (.int .u16 0)).setCell ⟨w.heap.size, 13, none⟩ (.slice none 0 0) = w3 at *
    exact bodyPost_ret (v := .tuple #[.agg #[.int .u8 0, .int .u8 0, .int .u8 0, .int .u8 0, .int .u8 0, .int .u8 0, .int .u8 0, .int .u8 0, .int .u8 0, .int .u8 0, .int .u8 0, .int .u8 0, .int .u16 0, .slice none 0 0], .int .i64 50]) (by simp [results, Try.results23, go_sem, d0, d1, d2, d3, d4, d5, d6, d7, d8, d9, d10, d11, d12, d13]) rfl FIN.out

set_option maxHeartbeats 4000000 in
set_option maxRecDepth 100000 in
theorem rread_wrong (A : Option Addr) (bs : List UInt8) (n c : Nat) (w : World) (hn : bs.length = n) (hl : n ≤ 9223372036854775807) (hw : ¬ okLen n) :
    Calls Try.prog 25 #[.slice A n c] w (EGot bs w) := by
  have hb : Below w.heap.size w (w.alloc (.cells #[.int .u8 0, .int .u8 0, .int .u8 0, .int .u8 0, .int .u8 0, .int .u8 0, .int .u8 0, .int .u8 0, .int .u8 0, .int .u8 0, .int .u8 0, .int .u8 0, .int .u16 0, .slice none 0 0] 42)) := (Below.refl _ _).alloc (Nat.le_refl _) _
  have h0 := blk_new w 42 #[.int .u8 0, .int .u8 0, .int .u8 0, .int .u8 0, .int .u8 0, .int .u8 0, .int .u8 0, .int .u8 0, .int .u8 0, .int .u8 0, .int .u8 0, .int .u8 0, .int .u16 0, .slice none 0 0]
  have HW : Hid (¬ okLen bs.length) := by show ¬ _; rw [hn]; exact hw
  have hcase : (n : Int) < 60 ∨ (¬ (n : Int) < 60 ∧ (1514 : Int) < n) := by unfold okLen at hw; omega
  have HB := Lib.hid hb
  have H0 := Lib.hid h0
  clear hb h0 hn hw
  rcases hcase with hq | ⟨hq, hq2⟩
  all_goals
    go_enter Try.func25, Try.ntmps25
    go_upto_region 1 with fail
    generalize w.alloc (.cells #[.int .u8 0, .int .u8 0, .int .u8 0, .int .u8 0, .int .u8 0, .int .u8 0, .int .u8 0, .int .u8 0, .int .u8 0, .int .u8 0, .int .u8 0, .int .u8 0, .int .u16 0, .slice none 0 0] 42) = w1 at *
    have st := H0.out.store14 (.int .u8 0) (.int .u8 0) (.int .u8 0) (.int .u8 0) (.int .u8 0) (.int .u8 0) (.int .u8 0) (.int .u8 0) (.int .u8 0) (.int .u8 0) (.int .u8 0) (.int .u8 0) (.int .u16 0) (.slice none 0 0)
    obtain ⟨m0, m1, m2, m3, m4, m5, m6, m7, m8, m9, m10, m11, m12, m13⟩ := H0.out.cells14
    obtain ⟨f0, f1, f2, f3, f4, f5, f6, f7, f8, f9, f10, f11, f12, f13⟩ := H0.out.frees14
    have ST := Lib.hid st
    clear st
    go_wp2_with fail
    have FIN : Hid (EGot bs w (.returned (.tuple #[.agg #[.int .u8 0, .int .u8 0, .int .u8 0, .int .u8 0, .int .u8 0, .int .u8 0, .int .u8 0, .int .u8 0, .int .u8 0, .int .u8 0, .int .u8 0, .int .u8 0, .int .u16 0, .slice none 0 0], .int .i64 50])) (((((((((((((((w1).setCell ⟨w.heap.size, 0, none⟩ (.int .u8 0)).setCell ⟨w.heap.size, 1, none⟩ (.int .u8 0)).setCell ⟨w.heap.size, 2, none⟩ (.int .u8 0)).setCell ⟨w.heap.size, 3, none⟩ (.int .u8 0)).setCell ⟨w.heap.size, 4, none⟩ (.int .u8 0)).setCell ⟨w.heap.size, 5, none⟩ (.int .u8 0)).setCell ⟨w.heap.size, 6, none⟩ (.int .u8 0)).setCell ⟨w.heap.size, 7, none⟩ (.int .u8 0)).setCell ⟨w.heap.size, 8, none⟩ (.int .u8 0)).setCell ⟨w.heap.size, 9, none⟩ (.int .u8 0)).setCell ⟨w.heap.size, 10, none⟩ (.int .u8 0)).setCell ⟨w.heap.size, 11, none⟩ (.int .u8 0)).setCell ⟨w.heap.size, 12, none⟩ (.int .u16 0)).setCell ⟨w.heap.size, 13, none⟩ (.slice none 0 0))) :=
      ⟨none, 0, by simp only [readTo, readFr, readKind, readD, readE, if_neg HW.out]; rfl, by rw [readD, if_neg HW.out]; exact Own.nil _ _, below_grown HB.out ST.out.2 (Nat.le_refl _) (Nat.le_refl _)⟩
    obtain ⟨d0, d1, d2, d3, d4, d5, d6, d7, d8, d9, d10, d11, d12, d13⟩ := ST.out.1.cells14
    clear m0 m1 m2 m3 m4 m5 m6 m7 m8 m9 m10 m11 m12 m13 f0 f1 f2 f3 f4 f5 f6 f7 f8 f9 f10 f11 f12 f13 ST
    generalize ((((((((((((((w1).setCell ⟨w.heap.size, 0, none⟩ (.int .u8 0)).setCell ⟨w.heap.size, 1, none⟩ (.int .u8 0)).setCell ⟨w.heap.size, 2, none⟩ (.int .u8 0)).setCell ⟨w.heap.size, 3, none⟩ (.int .u8 0)).setCell ⟨w.heap.size, 4, none⟩ (.int .u8 0)).setCell ⟨w.heap.size, 5, none⟩ (.int .u8 0)).setCell ⟨w.heap.size, 6, none⟩ (.int .u8 0)).setCell ⟨w.heap.size, 7, none⟩ (.int .u8 0)).setCell ⟨w.heap.size, 8, none⟩ (.int .u8 0)).setCell ⟨w.heap.size, 9, none⟩ (.int .u8 0)).setCell ⟨w.heap.size, 10, none⟩ (.int .u8 0)).setCell ⟨w.heap.size, 11, none⟩ (.int .u8 0)).setCell ⟨w.heap.size, 12, none⟩ (.int .u16 0)).setCell ⟨w.heap.size, 13, none⟩ (.slice none 0 0) = w3 at *
    exact bodyPost_ret (v := .tuple #[.agg #[.int .u8 0, .int .u8 0, .int .u8 0, .int .u8 0, .int .u8 0, .int .u8 0, .int .u8 0, .int .u8 0, .int .u8 0, .int .u8 0, .int .u8 0, .int .u8 0, .int .u16 0, .slice none 0 0], .int .i64 50]) (by simp [results, Try.results25, go_sem, d0, d1, d2, d3, d4, d5, d6, d7, d8, d9, d10, d11, d12, d13]) rfl FIN.out
end Go.Proofs.Ythchjfkbaocoiaa
