/-
  The walks of seg.put16, put32, fits, options.
-/
import Derived.Test.YtpnfdnnfhmecjaaSegA
import Derived.Test.YtpnfdnnfhmecjaaBlk9
import Derived.RegionTactic
import Derived.BigRegion
import Derived.Deep.RegionHeld3
namespace Go.Proofs.Ytpnfdnnfhmecjaa
open Go.RowKit
set_option linter.unusedVariables false

def put2 (bs : List UInt8) (off : Nat) (x : Int) : List UInt8 := (bs.set off (u8 (x / 256 % 256))).set (off + 1) (u8 (x % 256))
theorem put2_length (bs : List UInt8) (off : Nat) (x : Int) : (put2 bs off x).length = bs.length := by simp [put2]

def Wrote (t : TypeId) (B g c : Nat) (bs : List UInt8) (w : World) (e : Ending) (w' : World) : Prop :=
  e = .returned (.tuple #[]) ∧ Row t w' B (some ⟨g, 0, none⟩) c bs ∧ w.grownBy w' (some g)

theorem row_val {t : TypeId} {w : World} {B g j : Nat} {v v' : Int} {c : Nat} {xs : List UInt8} (h : Row t (w.setCell ⟨g, j, none⟩ (.int .u8 v)) B (some ⟨g, 0, none⟩) c xs) (e : v = v') : Row t (w.setCell ⟨g, j, none⟩ (.int .u8 v')) B (some ⟨g, 0, none⟩) c xs := by
  subst e
  exact h

set_option maxHeartbeats 1000000 in
theorem put16_any {t : TypeId} {g off c B : Nat} {x : Int} {bs : List UInt8} {w : World} (n' c' : Nat) (h : Row t w B (some ⟨g, 0, none⟩) c bs) (ho : off + 1 < bs.length) (hn : 2 ≤ n') (_x0 : 0 ≤ x) (_x1 : x < 4294967296) :
    Calls Try.prog 22 #[.slice (some ⟨g, off, none⟩) n' c', .int .i64 x] w (Wrote t B g c (put2 bs off x) w) := by
  have c0 := h.cell off (by omega)
  have c1 := h.cell (off + 1) (by omega)
  have f0 := h.free off
  have f1 := h.free (off + 1)
  have i0 : 0 < n' := by omega
  have i1 : (1 : Int) < (n' : Int) := by omega
  have H := Lib.hid h
  clear h ho
  go_enter Try.func22, Try.ntmps22
  go_wp2_with fail
  go_end0
  exact ⟨rfl, (H.out.set off _ (by omega) (by omega)).set (off + 1) _ (by omega) (by omega), (grown_set g off _).trans (grown_set g (off + 1) _)⟩
theorem put32_any {t : TypeId} {g off c B : Nat} {x : Int} {bs : List UInt8} {w : World} (n' c' : Nat) (h : Row t w B (some ⟨g, 0, none⟩) c bs) (ho : off + 3 < bs.length) (hn : 4 ≤ n') (hc : n' ≤ c') (x0 : 0 ≤ x) (x1 : x < 4294967296) :
    Calls Try.prog 23 #[.slice (some ⟨g, off, none⟩) n' c', .int .u32 x] w (Wrote t B g c (put2 (put2 bs off (x / 65536)) (off + 2) x) w) := by
  have i2 : (2 : Int) ≤ (n' : Int) := by omega
  have i3 : (n' : Int) ≤ (c' : Int) := by omega
  have i4 : ¬ c' = 2 := by omega
  go_enter Try.func23, Try.ntmps23
  go_wp2_with fail
  refine (put16_any n' c' h (by omega) (by omega) (by omega) (by omega)).mono ?_
  rintro e w1 ⟨rfl, h1, hg1⟩
  go_wp2_with fail
  refine (put16_any (off := off + 2) _ _ h1 (by rw [put2_length]; omega) (by omega) (by omega) (by omega)).mono ?_
  rintro e w2 ⟨rfl, h2, hg2⟩
  go_wp2_with fail
  go_end0
  exact ⟨rfl, h2, hg1.trans hg2⟩

/-- A segment's cells. -/
abbrev segV (fr to_ sq ak fl wi ur gr : Int) (D : Option Addr) (n c : Nat) : Array Value :=
  #[.int .i64 fr, .int .i64 to_, .int .u32 sq, .int .u32 ak, .int .i64 fl, .int .i64 wi, .int .i64 ur, .int .i64 gr, .slice D n c]

set_option maxRecDepth 100000 in
theorem fits_any (fr to_ sq ak fl wi ur gr : Int) (D : Option Addr) (n c : Nat) (w : World) :
    Calls Try.prog 20 #[.agg (segV fr to_ sq ak fl wi ur gr D n c)] w fun e w' => e = .returned (.bool (decide (fitsP ⟨fr, to_, sq, ak, fl, wi, ur, gr⟩))) ∧ Below w.heap.size w w' := by
  have j0 : ∀ W : World, (Instr.index 69 (.agg #[.int .i64 fr, .int .i64 to_, .int .i64 wi, .int .i64 ur, .int .i64 gr]) (.int .i64 0)).run Try.prog W = .ok (.int .i64 fr) W := fun _ => by kernel_rfl
  have j1 : ∀ W : World, (Instr.index 69 (.agg #[.int .i64 fr, .int .i64 to_, .int .i64 wi, .int .i64 ur, .int .i64 gr]) (.int .i64 1)).run Try.prog W = .ok (.int .i64 to_) W := fun _ => by kernel_rfl
  have j2 : ∀ W : World, (Instr.index 69 (.agg #[.int .i64 fr, .int .i64 to_, .int .i64 wi, .int .i64 ur, .int .i64 gr]) (.int .i64 2)).run Try.prog W = .ok (.int .i64 wi) W := fun _ => by kernel_rfl
  have j3 : ∀ W : World, (Instr.index 69 (.agg #[.int .i64 fr, .int .i64 to_, .int .i64 wi, .int .i64 ur, .int .i64 gr]) (.int .i64 3)).run Try.prog W = .ok (.int .i64 ur) W := fun _ => by kernel_rfl
  have j4 : ∀ W : World, (Instr.index 69 (.agg #[.int .i64 fr, .int .i64 to_, .int .i64 wi, .int .i64 ur, .int .i64 gr]) (.int .i64 4)).run Try.prog W = .ok (.int .i64 gr) W := fun _ => by kernel_rfl
  go_enter Try.func20, Try.ntmps20
  go_wp2_with fail
  go_rounds 6
  all_goals
    go_ret
    refine ⟨congrArg (fun b => Ending.returned (.bool b)) ?_, ?_⟩
    · clear j0 j1 j2 j3 j4
      first | exact (decide_eq_true (by simp only [fitsP, r16]; omega)).symm | exact (decide_eq_false (by simp only [fitsP, r16]; omega)).symm | (rw [decide_eq_decide]; simp only [fitsP, r16]; omega)
    · go_grown

set_option maxRecDepth 100000 in
theorem options_any (fr to_ sq ak fl wi ur gr : Int) (D : Option Addr) (n c : Nat) (w : World) (g0 : 0 ≤ gr) (g1 : gr ≤ 65535) :
    Calls Try.prog 21 #[.agg (segV fr to_ sq ak fl wi ur gr D n c)] w fun e w' => ∃ X x, e = .returned (.slice X (optsB ⟨fr, to_, sq, ak, fl, wi, ur, gr⟩).length x) ∧ Sl w' X x (optsB ⟨fr, to_, sq, ak, fl, wi, ur, gr⟩) ∧ Below w.heap.size w w' := by
  have hb : Below w.heap.size w (w.alloc (.cells (segV fr to_ sq ak fl wi ur gr D n c) 26)) := (Below.refl _ _).alloc (Nat.le_refl _) _
  by_cases h0 : gr = 0
  · have HO : Hid (optsB ⟨fr, to_, sq, ak, fl, wi, ur, gr⟩ = []) := by show _ = _; simp [optsB, h0]
    rw [HO.out]
    have HB := Lib.hid hb
    clear hb
    subst h0
    go_enter Try.func21, Try.ntmps21
    go_wp2_with fail
    go_ret
    exact ⟨none, 0, rfl, ⟨.inl rfl, by simp, by simp, fun _ => rfl⟩, HB.out⟩
  · have HO : Hid (optsB ⟨fr, to_, sq, ak, fl, wi, ur, gr⟩ = [2, 4, u8 (gr / 256 % 256), u8 (gr % 256)]) := by show _ = _; simp [optsB, h0, two8]
    rw [HO.out]
    have HB := Lib.hid hb
    clear hb
    go_enter Try.func21, Try.ntmps21
    go_wp2_with fail
    go_ret
    have e : gr / 256 % 256 = gr / 256 := by omega
    have a0 := u8_toNat (gr / 256) (by omega) (by omega)
    have a1 := u8_toNat (gr % 256) (by omega) (by omega)
    rw [e]
    have hl := bs_lit (w.alloc (.cells (segV fr to_ sq ak fl wi ur gr D n c) 26)) [2, 4, u8 (gr / 256), u8 (gr % 256)]
    simp only [List.map_cons, List.map_nil, bval, a0, a1] at hl
    exact ⟨some ⟨w.heap.size + 1, 0, none⟩, 4, rfl, ⟨by simpa using hl, by simp, by simp, fun h => by cases h⟩, HB.out.alloc (by simp) _⟩
end Go.Proofs.Ytpnfdnnfhmecjaa
