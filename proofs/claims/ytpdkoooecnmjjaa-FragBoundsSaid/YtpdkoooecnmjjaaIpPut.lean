/-
  The walks of ip.put16, put32: numbers, the highest byte first.
-/
import Derived.Test.YtpdkoooecnmjjaaRow
import Derived.RegionTactic
import Derived.BigRegion
namespace Go.Proofs.Ytpdkoooecnmjjaa
open Go.RowKit

def put2 (bs : List UInt8) (off : Nat) (x : Int) : List UInt8 := (bs.set off (u8 (x / 256 % 256))).set (off + 1) (u8 (x % 256))
theorem put2_length (bs : List UInt8) (off : Nat) (x : Int) : (put2 bs off x).length = bs.length := by simp [put2]

def Wrote (t : TypeId) (B g c : Nat) (bs : List UInt8) (w : World) (e : Ending) (w' : World) : Prop :=
  e = .returned (.tuple #[]) ∧ Row t w' B (some ⟨g, 0, none⟩) c bs ∧ w.grownBy w' (some g)

theorem row_val {t : TypeId} {w : World} {B g j : Nat} {v v' : Int} {c : Nat} {xs : List UInt8} (h : Row t (w.setCell ⟨g, j, none⟩ (.int .u8 v)) B (some ⟨g, 0, none⟩) c xs) (e : v = v') : Row t (w.setCell ⟨g, j, none⟩ (.int .u8 v')) B (some ⟨g, 0, none⟩) c xs := by
  subst e
  exact h

set_option maxHeartbeats 1000000 in
theorem put16_any {t : TypeId} {g off c B : Nat} {x : Int} {bs : List UInt8} {w : World} (n' c' : Nat) (h : Row t w B (some ⟨g, 0, none⟩) c bs) (ho : off + 1 < bs.length) (hn : 2 ≤ n') (_x0 : 0 ≤ x) (_x1 : x < 4294967296) :
    Calls Try.prog 32 #[.slice (some ⟨g, off, none⟩) n' c', .int .i64 x] w (Wrote t B g c (put2 bs off x) w) := by
  have c0 := h.cell off (by omega)
  have c1 := h.cell (off + 1) (by omega)
  have f0 := h.free off
  have f1 := h.free (off + 1)
  have i0 : 0 < n' := by omega
  have i1 : (1 : Int) < (n' : Int) := by omega
  have H := Lib.hid h
  clear h ho
  go_enter Try.func32, Try.ntmps32
  go_wp2_with fail
  go_end0
  exact ⟨rfl, (H.out.set off _ (by omega) (by omega)).set (off + 1) _ (by omega) (by omega), (grown_set g off _).trans (grown_set g (off + 1) _)⟩
theorem put32_any {t : TypeId} {g off c B : Nat} {x : Int} {bs : List UInt8} {w : World} (n' c' : Nat) (h : Row t w B (some ⟨g, 0, none⟩) c bs) (ho : off + 3 < bs.length) (hn : 4 ≤ n') (hc : n' ≤ c') (x0 : 0 ≤ x) (x1 : x < 4294967296) :
    Calls Try.prog 34 #[.slice (some ⟨g, off, none⟩) n' c', .int .u32 x] w (Wrote t B g c (put2 (put2 bs off (x / 65536)) (off + 2) x) w) := by
  have i2 : (2 : Int) ≤ (n' : Int) := by omega
  have i3 : (n' : Int) ≤ (c' : Int) := by omega
  have i4 : ¬ c' = 2 := by omega
  go_enter Try.func34, Try.ntmps34
  go_wp2_with fail
  refine (put16_any n' c' h (by omega) (by omega) (by omega) (by omega)).mono ?_
  rintro e w1 ⟨rfl, h1, hg1⟩
  go_wp2_with fail
  refine (put16_any (off := off + 2) _ _ h1 (by rw [put2_length]; omega) (by omega) (by omega) (by omega)).mono ?_
  rintro e w2 ⟨rfl, h2, hg2⟩
  go_wp2_with fail
  go_end0
  exact ⟨rfl, h2, hg1.trans hg2⟩
end Go.Proofs.Ytpdkoooecnmjjaa
