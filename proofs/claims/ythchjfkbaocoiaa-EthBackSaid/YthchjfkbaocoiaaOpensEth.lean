/-
  Arguments that are addresses, or frames, opened.
-/
import Derived.Test.YthchjfkbaocoiaaEthA
import Derived.Lib.SmallJoins
import Derived.Deep.Slices
import Derived.OpenShut
namespace Go.Proofs.Ythchjfkbaocoiaa
open Go.Joins Go.ChangeShapes Go.WideShapes Go.RowKit Go.Deep
set_option linter.unusedVariables false

theorem u8_val {z : Int} (h : (Lit.int .u8 z).wf = true) : (.int .u8 z : Value) = bval (u8 z) := by
  have hb : 0 ≤ z ∧ z ≤ 255 := by simp [Lit.wf, IntKind.min, IntKind.max, IntKind.signed, IntKind.bits] at h; omega
  unfold bval
  rw [u8_toNat z hb.1 (by omega)]
section
variable {H : Type} {enc : TypeId × Value → H} {w : World} {base : Nat} {held : Bool}
theorem mac_cells {fuel : Nat} {cs : List Value} {x : DataW H × List MemPlace} (h : DataW.trod enc Try.prog w base (fun _ => true) held fuel 23 cs = some x) : ∃ m : List UInt8, cs = m.map bval ∧ m.length = 6 := by
  obtain ⟨xs, n, _, _, hl, hx, hg⟩ := DataW.trod_array (by kernel_rfl : Try.prog.underlying 23 = some (.array 6 5)) h
  have hC : Try.prog.cellsOf 23 = 6 := by kernel_rfl
  have hE : Try.prog.cellsOf 5 = 1 := by kernel_rfl
  rw [hC] at hl
  match cs, hl with
  | [c0, c1, c2, c3, c4, c5], _ =>
    match xs, hx with
    | [x0, x1, x2, x3, x4, x5], _ =>
      have h0 := hg 0 (by omega)
      rw [hE] at h0
      obtain ⟨z0, q0, _, w0⟩ := DataW.trod_int (k := .u8) Try.underlying5 (x := x0) (by simpa using h0)
      have h1 := hg 1 (by omega)
      rw [hE] at h1
      obtain ⟨z1, q1, _, w1⟩ := DataW.trod_int (k := .u8) Try.underlying5 (x := x1) (by simpa using h1)
      have h2 := hg 2 (by omega)
      rw [hE] at h2
      obtain ⟨z2, q2, _, w2⟩ := DataW.trod_int (k := .u8) Try.underlying5 (x := x2) (by simpa using h2)
      have h3 := hg 3 (by omega)
      rw [hE] at h3
      obtain ⟨z3, q3, _, w3⟩ := DataW.trod_int (k := .u8) Try.underlying5 (x := x3) (by simpa using h3)
      have h4 := hg 4 (by omega)
      rw [hE] at h4
      obtain ⟨z4, q4, _, w4⟩ := DataW.trod_int (k := .u8) Try.underlying5 (x := x4) (by simpa using h4)
      have h5 := hg 5 (by omega)
      rw [hE] at h5
      obtain ⟨z5, q5, _, w5⟩ := DataW.trod_int (k := .u8) Try.underlying5 (x := x5) (by simpa using h5)
      have p0 : [c0] = [.int .u8 z0] := by simpa using q0
      have p1 : [c1] = [.int .u8 z1] := by simpa using q1
      have p2 : [c2] = [.int .u8 z2] := by simpa using q2
      have p3 : [c3] = [.int .u8 z3] := by simpa using q3
      have p4 : [c4] = [.int .u8 z4] := by simpa using q4
      have p5 : [c5] = [.int .u8 z5] := by simpa using q5
      simp only [List.cons.injEq, and_true] at p0 p1 p2 p3 p4 p5
      subst p0 p1 p2 p3 p4 p5
      exact ⟨[u8 z0, u8 z1, u8 z2, u8 z3, u8 z4, u8 z5], by simp only [List.map_cons, List.map_nil, u8_val w0, u8_val w1, u8_val w2, u8_val w3, u8_val w4, u8_val w5], rfl⟩
theorem okWide_arr {r : Reach} {b0 : Nat} {v : Value} {t e : TypeId} {n : Nat} (ht : Try.prog.underlying t = some (.array n e)) (h : Value.okWide Try.prog w r b0 t v) : ∃ cs, v = .agg cs ∧ cs.size = Try.prog.cellsOf t := by
  simp only [Value.okWide, ht] at h
  obtain ⟨cs, h1, h2, _⟩ := h
  exact ⟨cs, h1, h2⟩
theorem mac_open {r : Reach} {b0 : Nat} {v : Value} {d : DataW H} {p : List MemPlace} (hv : Value.okWide Try.prog w r b0 23 v) (h : DataW.Trod enc Try.prog w base (fun _ => true) held 23 v d p) :
    ∃ m : List UInt8, v = .agg (macv m) ∧ m.length = 6 := by
  obtain ⟨cs, rfl, _⟩ := okWide_arr (by kernel_rfl : Try.prog.underlying 23 = some (.array 6 5)) hv
  obtain ⟨fuel, hf⟩ := h
  obtain ⟨m, hm, hl⟩ := mac_cells hf
  refine ⟨m, ?_, hl⟩
  have : cs.toList = m.map bval := hm
  unfold macv
  rw [← this]
end
end Go.Proofs.Ythchjfkbaocoiaa
