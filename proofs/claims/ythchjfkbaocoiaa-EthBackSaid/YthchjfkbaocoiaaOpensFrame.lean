/-
  Arguments that are frames, opened.
-/
import Derived.Test.YthchjfkbaocoiaaEthI
import Derived.Test.YthchjfkbaocoiaaOpensEth
namespace Go.Proofs.Ythchjfkbaocoiaa
open Go.Joins Go.ChangeShapes Go.WideShapes Go.RowKit Go.Deep
set_option linter.unusedVariables false

section
variable {H : Type} {enc : TypeId × Value → H} {w : World} {base : Nat} {held : Bool}
theorem bytes_field {fuel : Nat} {v : Value} {x : DataW H × List MemPlace} (h : DataW.trod enc Try.prog w base (fun _ => true) held fuel 29 [v] = some x) : ∃ A c bs, v = .slice A (bs : List UInt8).length c ∧ Sl w A c bs := by
  rcases open_ints Try.underlying29 Try.underlying5 (by kernel_rfl) h with ⟨hcs, _⟩ | ⟨x, l, c, zs, hcs, _, hl, hm, hz, _, hcell, hwz⟩
  · simp at hcs
    obtain ⟨bs, hb, hs⟩ := row_sl (w := w) (a := none) (len := 0) (cap := 0) (zs := []) (.inl ⟨rfl, rfl, rfl, rfl⟩)
    exact ⟨none, 0, bs, by rw [hb]; exact hcs, hs⟩
  · simp at hcs
    obtain ⟨bs, hb, hs⟩ := row_sl (w := w) (a := some x) (len := l) (cap := c) (zs := zs) (.inr ⟨_, rfl, hl, hm, by simpa using hz, hcell, hwz⟩)
    exact ⟨some x, c, bs, by rw [hb]; exact hcs, hs⟩

theorem frame_open {r : Reach} {b0 : Nat} {v : Value} {d : DataW H} {p : List MemPlace} (hv : Value.okWide Try.prog w r b0 37 v) (h : DataW.Trod enc Try.prog w base (fun _ => true) held 37 v d p) :
    ∃ (to_ fr : List UInt8) (k : Int) (D : Option Addr) (bs : List UInt8) (c : Nat), v = .agg (frameV to_ fr k D bs.length c) ∧ to_.length = 6 ∧ fr.length = 6 ∧ (Lit.int .u16 k).wf = true ∧ Sl w D c bs := by
  obtain ⟨cs, rfl, hsz⟩ := okWide_struct Try.underlying37 hv
  have hC : Try.prog.cellsOf 37 = 14 := by kernel_rfl
  obtain ⟨l⟩ := cs
  match l, hsz.trans hC with
  | [c0, c1, c2, c3, c4, c5, c6, c7, c8, c9, c10, c11, c12, c13], _ =>
    obtain ⟨fuel, hf⟩ := h
    obtain ⟨xs, n, _, _, _, hlen, hg⟩ := DataW.trod_struct Try.underlying37 hf
    have h0 := hg 0 _ rfl
    replace h0 : DataW.trod enc Try.prog w base (fun _ => true) held n 23 [c0, c1, c2, c3, c4, c5] = xs[0]? := h0
    rw [List.getElem?_eq_getElem (by rw [hlen]; decide)] at h0
    have h1 := hg 1 _ rfl
    replace h1 : DataW.trod enc Try.prog w base (fun _ => true) held n 23 [c6, c7, c8, c9, c10, c11] = xs[1]? := h1
    rw [List.getElem?_eq_getElem (by rw [hlen]; decide)] at h1
    have h2 := hg 2 _ rfl
    replace h2 : DataW.trod enc Try.prog w base (fun _ => true) held n 35 [c12] = xs[2]? := h2
    rw [List.getElem?_eq_getElem (by rw [hlen]; decide)] at h2
    have h3 := hg 3 _ rfl
    replace h3 : DataW.trod enc Try.prog w base (fun _ => true) held n 29 [c13] = xs[3]? := h3
    rw [List.getElem?_eq_getElem (by rw [hlen]; decide)] at h3
    obtain ⟨m0, e0, l0⟩ := mac_cells h0
    obtain ⟨m1, e1, l1⟩ := mac_cells h1
    obtain ⟨z2, q2, _, w2⟩ := DataW.trod_int (k := .u16) Try.underlying35 h2
    have p2 : [c12] = [.int .u16 z2] := q2
    simp only [List.cons.injEq, and_true] at p2
    obtain ⟨D, d, bs, q3, hs⟩ := bytes_field (v := c13) h3
    refine ⟨m0, m1, z2, D, bs, d, ?_, l0, l1, w2, hs⟩
    subst p2 q3
    unfold frameV
    rw [← e0, ← e1]
    rfl
end
end Go.Proofs.Ythchjfkbaocoiaa
