/-
  Arguments that are structs by value, opened.
-/
import Derived.Test.YtpnfdnnfhmecjaaBytes
import Derived.Lib.SmallJoins
import Derived.Deep.Slices
import Derived.OpenShut
namespace Go.Proofs.Ytpnfdnnfhmecjaa
open Go.Joins Go.ChangeShapes Go.WideShapes Go.RowKit Go.Deep

section
variable {H : Type} {enc : TypeId × Value → H} {w : World} {base : Nat} {held : Bool}
theorem bytes_field {fuel : Nat} {v : Value} {x : DataW H × List MemPlace} (h : DataW.trod enc Try.prog w base (fun _ => true) held fuel 24 [v] = some x) : ∃ A c bs, v = .slice A (bs : List UInt8).length c ∧ Sl w A c bs := by
  rcases open_ints Try.underlying24 Try.underlying5 (by kernel_rfl) h with ⟨hcs, _⟩ | ⟨x, l, c, zs, hcs, _, hl, hm, hz, _, hcell, hwz⟩
  · simp at hcs
    obtain ⟨bs, hb, hs⟩ := row_sl (w := w) (a := none) (len := 0) (cap := 0) (zs := []) (.inl ⟨rfl, rfl, rfl, rfl⟩)
    exact ⟨none, 0, bs, by rw [hb]; exact hcs, hs⟩
  · simp at hcs
    obtain ⟨bs, hb, hs⟩ := row_sl (w := w) (a := some x) (len := l) (cap := c) (zs := zs) (.inr ⟨_, rfl, hl, hm, by simpa using hz, hcell, hwz⟩)
    exact ⟨some x, c, bs, by rw [hb]; exact hcs, hs⟩

theorem segment_open {r : Reach} {b0 : Nat} {v : Value} {d : DataW H} {p : List MemPlace} (hv : Value.okWide Try.prog w r b0 26 v) (h : DataW.Trod enc Try.prog w base (fun _ => true) held 26 v d p) :
    ∃ (z0 : Int) (z1 : Int) (z2 : Int) (z3 : Int) (z4 : Int) (z5 : Int) (z6 : Int) (z7 : Int) (D8 : Option Addr) (bs8 : List UInt8) (d8 : Nat), v = .agg #[.int .i64 z0, .int .i64 z1, .int .u32 z2, .int .u32 z3, .int .i64 z4, .int .i64 z5, .int .i64 z6, .int .i64 z7, .slice D8 bs8.length d8] ∧ (Lit.int .i64 z0).wf = true ∧ (Lit.int .i64 z1).wf = true ∧ (Lit.int .u32 z2).wf = true ∧ (Lit.int .u32 z3).wf = true ∧ (Lit.int .i64 z4).wf = true ∧ (Lit.int .i64 z5).wf = true ∧ (Lit.int .i64 z6).wf = true ∧ (Lit.int .i64 z7).wf = true ∧ Sl w D8 d8 bs8 := by
  obtain ⟨cs, rfl, hsz⟩ := okWide_struct Try.underlying26 hv
  have hC : Try.prog.cellsOf 26 = 9 := by kernel_rfl
  obtain ⟨l⟩ := cs
  match l, hsz.trans hC with
  | [c0, c1, c2, c3, c4, c5, c6, c7, c8], _ =>
    obtain ⟨fuel, hf⟩ := h
    obtain ⟨xs, n, _, _, _, hlen, hg⟩ := DataW.trod_struct Try.underlying26 hf
    have h0 := hg 0 _ rfl
    replace h0 : DataW.trod enc Try.prog w base (fun _ => true) held n 3 [c0] = xs[0]? := h0
    rw [List.getElem?_eq_getElem (by rw [hlen]; decide)] at h0
    have h1 := hg 1 _ rfl
    replace h1 : DataW.trod enc Try.prog w base (fun _ => true) held n 3 [c1] = xs[1]? := h1
    rw [List.getElem?_eq_getElem (by rw [hlen]; decide)] at h1
    have h2 := hg 2 _ rfl
    replace h2 : DataW.trod enc Try.prog w base (fun _ => true) held n 22 [c2] = xs[2]? := h2
    rw [List.getElem?_eq_getElem (by rw [hlen]; decide)] at h2
    have h3 := hg 3 _ rfl
    replace h3 : DataW.trod enc Try.prog w base (fun _ => true) held n 22 [c3] = xs[3]? := h3
    rw [List.getElem?_eq_getElem (by rw [hlen]; decide)] at h3
    have h4 := hg 4 _ rfl
    replace h4 : DataW.trod enc Try.prog w base (fun _ => true) held n 3 [c4] = xs[4]? := h4
    rw [List.getElem?_eq_getElem (by rw [hlen]; decide)] at h4
    have h5 := hg 5 _ rfl
    replace h5 : DataW.trod enc Try.prog w base (fun _ => true) held n 3 [c5] = xs[5]? := h5
    rw [List.getElem?_eq_getElem (by rw [hlen]; decide)] at h5
    have h6 := hg 6 _ rfl
    replace h6 : DataW.trod enc Try.prog w base (fun _ => true) held n 3 [c6] = xs[6]? := h6
    rw [List.getElem?_eq_getElem (by rw [hlen]; decide)] at h6
    have h7 := hg 7 _ rfl
    replace h7 : DataW.trod enc Try.prog w base (fun _ => true) held n 3 [c7] = xs[7]? := h7
    rw [List.getElem?_eq_getElem (by rw [hlen]; decide)] at h7
    have h8 := hg 8 _ rfl
    replace h8 : DataW.trod enc Try.prog w base (fun _ => true) held n 24 [c8] = xs[8]? := h8
    rw [List.getElem?_eq_getElem (by rw [hlen]; decide)] at h8
    obtain ⟨z0, q0, _, w0⟩ := DataW.trod_int (k := .i64) Try.underlying3 (h0)
    have p0 : [c0] = [.int .i64 z0] := q0
    obtain ⟨z1, q1, _, w1⟩ := DataW.trod_int (k := .i64) Try.underlying3 (h1)
    have p1 : [c1] = [.int .i64 z1] := q1
    obtain ⟨z2, q2, _, w2⟩ := DataW.trod_int (k := .u32) Try.underlying22 (h2)
    have p2 : [c2] = [.int .u32 z2] := q2
    obtain ⟨z3, q3, _, w3⟩ := DataW.trod_int (k := .u32) Try.underlying22 (h3)
    have p3 : [c3] = [.int .u32 z3] := q3
    obtain ⟨z4, q4, _, w4⟩ := DataW.trod_int (k := .i64) Try.underlying3 (h4)
    have p4 : [c4] = [.int .i64 z4] := q4
    obtain ⟨z5, q5, _, w5⟩ := DataW.trod_int (k := .i64) Try.underlying3 (h5)
    have p5 : [c5] = [.int .i64 z5] := q5
    obtain ⟨z6, q6, _, w6⟩ := DataW.trod_int (k := .i64) Try.underlying3 (h6)
    have p6 : [c6] = [.int .i64 z6] := q6
    obtain ⟨z7, q7, _, w7⟩ := DataW.trod_int (k := .i64) Try.underlying3 (h7)
    have p7 : [c7] = [.int .i64 z7] := q7
    obtain ⟨D8, d8, bs8, q8, hs8⟩ := bytes_field (v := c8) (h8)
    simp only [List.cons.injEq, and_true] at p0 p1 p2 p3 p4 p5 p6 p7
    subst p0 p1 p2 p3 p4 p5 p6 p7 q8
    exact ⟨z0, z1, z2, z3, z4, z5, z6, z7, D8, bs8, d8, rfl, w0, w1, w2, w3, w4, w5, w6, w7, hs8⟩
end
end Go.Proofs.Ytpnfdnnfhmecjaa
