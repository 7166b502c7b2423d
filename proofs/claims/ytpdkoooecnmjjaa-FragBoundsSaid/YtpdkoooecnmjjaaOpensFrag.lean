/-
  Arguments that are packets, or slices of acts, opened.
-/
import Derived.Test.YtpdkoooecnmjjaaBytes
import Derived.Lib.SmallJoins
import Derived.Deep.Slices
import Derived.OpenShut
namespace Go.Proofs.Ytpdkoooecnmjjaa
open Go.Joins Go.ChangeShapes Go.WideShapes Go.RowKit Go.Deep

section
variable {H : Type} {enc : TypeId × Value → H} {w : World} {base : Nat} {held : Bool}
theorem bytes_field {fuel : Nat} {v : Value} {x : DataW H × List MemPlace} (h : DataW.trod enc Try.prog w base (fun _ => true) held fuel 31 [v] = some x) : ∃ A c bs, v = .slice A (bs : List UInt8).length c ∧ Sl w A c bs := by
  rcases open_ints Try.underlying31 Try.underlying5 (by kernel_rfl) h with ⟨hcs, _⟩ | ⟨x, l, c, zs, hcs, _, hl, hm, hz, _, hcell, hwz⟩
  · simp at hcs
    obtain ⟨bs, hb, hs⟩ := row_sl (w := w) (a := none) (len := 0) (cap := 0) (zs := []) (.inl ⟨rfl, rfl, rfl, rfl⟩)
    exact ⟨none, 0, bs, by rw [hb]; exact hcs, hs⟩
  · simp at hcs
    obtain ⟨bs, hb, hs⟩ := row_sl (w := w) (a := some x) (len := l) (cap := c) (zs := zs) (.inr ⟨_, rfl, hl, hm, by simpa using hz, hcell, hwz⟩)
    exact ⟨some x, c, bs, by rw [hb]; exact hcs, hs⟩

theorem packet_fields {fuel : Nat} {c0 c1 c2 c3 c4 c5 c6 c7 c8 : Value} {x : DataW H × List MemPlace} (hf : DataW.trod enc Try.prog w base (fun _ => true) held fuel 33 [c0, c1, c2, c3, c4, c5, c6, c7, c8] = some x) :
    ∃ (z0 z1 z2 z3 : Int) (z4 z5 : Bool) (z6 z7 : Int) (D8 : Option Addr) (bs8 : List UInt8) (d8 : Nat), [c0, c1, c2, c3, c4, c5, c6, c7, c8] = [.int .i64 z0, .int .i64 z1, .int .i64 z2, .int .i64 z3, .bool z4, .bool z5, .int .u32 z6, .int .u32 z7, .slice D8 bs8.length d8] ∧ (Lit.int .i64 z0).wf = true ∧ (Lit.int .i64 z1).wf = true ∧ (Lit.int .i64 z2).wf = true ∧ (Lit.int .i64 z3).wf = true ∧ (Lit.int .u32 z6).wf = true ∧ (Lit.int .u32 z7).wf = true ∧ Sl w D8 d8 bs8 := by
  obtain ⟨xs, n, _, _, _, hlen, hg⟩ := DataW.trod_struct Try.underlying33 hf
  have h0 := hg 0 _ rfl
  replace h0 : DataW.trod enc Try.prog w base (fun _ => true) held n 3 [c0] = xs[0]? := h0
  rw [List.getElem?_eq_getElem (by rw [hlen]; decide)] at h0
  have h1 := hg 1 _ rfl
  replace h1 : DataW.trod enc Try.prog w base (fun _ => true) held n 3 [c1] = xs[1]? := h1
  rw [List.getElem?_eq_getElem (by rw [hlen]; decide)] at h1
  have h2 := hg 2 _ rfl
  replace h2 : DataW.trod enc Try.prog w base (fun _ => true) held n 3 [c2] = xs[2]? := h2
  rw [List.getElem?_eq_getElem (by rw [hlen]; decide)] at h2
  have h3 := hg 3 _ rfl
  replace h3 : DataW.trod enc Try.prog w base (fun _ => true) held n 3 [c3] = xs[3]? := h3
  rw [List.getElem?_eq_getElem (by rw [hlen]; decide)] at h3
  have h4 := hg 4 _ rfl
  replace h4 : DataW.trod enc Try.prog w base (fun _ => true) held n 4 [c4] = xs[4]? := h4
  rw [List.getElem?_eq_getElem (by rw [hlen]; decide)] at h4
  have h5 := hg 5 _ rfl
  replace h5 : DataW.trod enc Try.prog w base (fun _ => true) held n 4 [c5] = xs[5]? := h5
  rw [List.getElem?_eq_getElem (by rw [hlen]; decide)] at h5
  have h6 := hg 6 _ rfl
  replace h6 : DataW.trod enc Try.prog w base (fun _ => true) held n 30 [c6] = xs[6]? := h6
  rw [List.getElem?_eq_getElem (by rw [hlen]; decide)] at h6
  have h7 := hg 7 _ rfl
  replace h7 : DataW.trod enc Try.prog w base (fun _ => true) held n 30 [c7] = xs[7]? := h7
  rw [List.getElem?_eq_getElem (by rw [hlen]; decide)] at h7
  have h8 := hg 8 _ rfl
  replace h8 : DataW.trod enc Try.prog w base (fun _ => true) held n 31 [c8] = xs[8]? := h8
  rw [List.getElem?_eq_getElem (by rw [hlen]; decide)] at h8
  obtain ⟨z0, q0, _, w0⟩ := DataW.trod_int (k := .i64) Try.underlying3 (h0)
  have p0 : [c0] = [.int .i64 z0] := q0
  obtain ⟨z1, q1, _, w1⟩ := DataW.trod_int (k := .i64) Try.underlying3 (h1)
  have p1 : [c1] = [.int .i64 z1] := q1
  obtain ⟨z2, q2, _, w2⟩ := DataW.trod_int (k := .i64) Try.underlying3 (h2)
  have p2 : [c2] = [.int .i64 z2] := q2
  obtain ⟨z3, q3, _, w3⟩ := DataW.trod_int (k := .i64) Try.underlying3 (h3)
  have p3 : [c3] = [.int .i64 z3] := q3
  obtain ⟨z4, q4, _⟩ := DataW.trod_bool Try.underlying4 (h4)
  have p4 : [c4] = [.bool z4] := q4
  obtain ⟨z5, q5, _⟩ := DataW.trod_bool Try.underlying4 (h5)
  have p5 : [c5] = [.bool z5] := q5
  obtain ⟨z6, q6, _, w6⟩ := DataW.trod_int (k := .u32) Try.underlying30 (h6)
  have p6 : [c6] = [.int .u32 z6] := q6
  obtain ⟨z7, q7, _, w7⟩ := DataW.trod_int (k := .u32) Try.underlying30 (h7)
  have p7 : [c7] = [.int .u32 z7] := q7
  obtain ⟨D8, d8, bs8, q8, hs8⟩ := bytes_field (v := c8) (h8)
  simp only [List.cons.injEq, and_true] at p0 p1 p2 p3 p4 p5 p6 p7
  subst p0 p1 p2 p3 p4 p5 p6 p7 q8
  exact ⟨z0, z1, z2, z3, z4, z5, z6, z7, D8, bs8, d8, rfl, w0, w1, w2, w3, w6, w7, hs8⟩
theorem packet_open {r : Reach} {b0 : Nat} {v : Value} {d : DataW H} {p : List MemPlace} (hv : Value.okWide Try.prog w r b0 33 v) (h : DataW.Trod enc Try.prog w base (fun _ => true) held 33 v d p) :
    ∃ (z0 z1 z2 z3 : Int) (z4 z5 : Bool) (z6 z7 : Int) (D8 : Option Addr) (bs8 : List UInt8) (d8 : Nat), v = .agg #[.int .i64 z0, .int .i64 z1, .int .i64 z2, .int .i64 z3, .bool z4, .bool z5, .int .u32 z6, .int .u32 z7, .slice D8 bs8.length d8] ∧ (Lit.int .i64 z0).wf = true ∧ (Lit.int .i64 z1).wf = true ∧ (Lit.int .i64 z2).wf = true ∧ (Lit.int .i64 z3).wf = true ∧ (Lit.int .u32 z6).wf = true ∧ (Lit.int .u32 z7).wf = true ∧ Sl w D8 d8 bs8 := by
  obtain ⟨cs, rfl, hsz⟩ := okWide_struct Try.underlying33 hv
  have hC : Try.prog.cellsOf 33 = 9 := by kernel_rfl
  obtain ⟨l⟩ := cs
  match l, hsz.trans hC with
  | [c0, c1, c2, c3, c4, c5, c6, c7, c8], _ =>
    obtain ⟨fuel, hf⟩ := h
    obtain ⟨z0, z1, z2, z3, z4, z5, z6, z7, D8, bs8, d8, e, r⟩ := packet_fields hf
    exact ⟨z0, z1, z2, z3, z4, z5, z6, z7, D8, bs8, d8, by rw [e], r⟩

/-- The i-th act of the row at ⟨b, off⟩. -/
def ActAt (w : World) (b off i : Nat) : Prop := ∃ (d n z0 z1 z2 z3 : Int) (z4 z5 : Bool) (z6 z7 : Int) (D : Option Addr) (bs : List UInt8) (c : Nat),
  w.cell? ⟨b, off + i * 11, none⟩ = some (.int .i64 d) ∧ w.cell? ⟨b, off + i * 11 + 1, none⟩ = some (.int .i64 n) ∧
  w.cell? ⟨b, off + i * 11 + 2, none⟩ = some (.int .i64 z0) ∧ w.cell? ⟨b, off + i * 11 + 3, none⟩ = some (.int .i64 z1) ∧ w.cell? ⟨b, off + i * 11 + 4, none⟩ = some (.int .i64 z2) ∧ w.cell? ⟨b, off + i * 11 + 5, none⟩ = some (.int .i64 z3) ∧
  w.cell? ⟨b, off + i * 11 + 6, none⟩ = some (.bool z4) ∧ w.cell? ⟨b, off + i * 11 + 7, none⟩ = some (.bool z5) ∧ w.cell? ⟨b, off + i * 11 + 8, none⟩ = some (.int .u32 z6) ∧ w.cell? ⟨b, off + i * 11 + 9, none⟩ = some (.int .u32 z7) ∧
  w.cell? ⟨b, off + i * 11 + 10, none⟩ = some (.slice D bs.length c) ∧ Sl w D c bs
def Acts (w : World) (a : Option Addr) (len : Nat) : Prop := len = 0 ∨ ∃ b off, a = some ⟨b, off, none⟩ ∧ ∀ i, i < len → ActAt w b off i
theorem acts_open {r : Reach} {b0 : Nat} {v : Value} {d : DataW H} {p : List MemPlace} (hv : Value.okWide Try.prog w r b0 22 v) (h : DataW.Trod enc Try.prog w base (fun _ => true) held 22 v d p) :
    ∃ a len cap, v = .slice a len cap ∧ Acts w a len ∧ len ≤ 9223372036854775807 := by
  obtain ⟨a, len, cap, rfl⟩ := okWide_slice Try.underlying22 hv
  refine ⟨a, len, cap, rfl, ?_⟩
  obtain ⟨fuel, hf⟩ := h
  rcases Deep.open_slice Try.underlying22 hf with ⟨hcs, _⟩ | ⟨x, l, c, m, n, D, Pl, hcs, _, hl, hm, hmm, _, hi⟩
  · simp [Value.cells] at hcs
    exact ⟨.inl hcs.2.1, by omega⟩
  · simp [Value.cells] at hcs
    obtain ⟨rfl, rfl, rfl⟩ := hcs
    have hml : len ≤ m := by rw [hmm]; split <;> omega
    refine ⟨?_, by simp only [maxLen] at hm; omega⟩
    rcases Nat.eq_zero_or_pos len with h0 | h0
    · exact .inl h0
    · right
      obtain ⟨b, off, spot⟩ := x
      have e4 : Try.prog.cellsOf 35 = 11 := by kernel_rfl
      rw [e4] at hi
      have hsp : spot = none := by
        obtain ⟨cs', hc, ht⟩ := hi 0 (by omega)
        obtain ⟨_, hcl, hat⟩ := World.cells?_some hc
        have := hat 0 (by omega)
        rw [List.getElem?_eq_getElem (by omega)] at this
        have := World.cell?_spot this
        simpa [Addr.add] using this
      subst hsp
      refine ⟨b, off, rfl, fun i hil => ?_⟩
      obtain ⟨cs', hc, ht⟩ := hi i (by omega)
      obtain ⟨_, hcl, hat⟩ := World.cells?_some hc
      match cs', hcl with
      | [e0, e1, c0, c1, c2, c3, c4, c5, c6, c7, c8], _ =>
        obtain ⟨xs, n', _, _, _, hlen, hg⟩ := DataW.trod_struct Try.underlying35 ht
        have h0 := hg 0 _ rfl
        replace h0 : DataW.trod enc Try.prog w base (fun _ => true) held n' 3 [e0] = xs[0]? := h0
        rw [List.getElem?_eq_getElem (by rw [hlen]; decide)] at h0
        have h1 := hg 1 _ rfl
        replace h1 : DataW.trod enc Try.prog w base (fun _ => true) held n' 3 [e1] = xs[1]? := h1
        rw [List.getElem?_eq_getElem (by rw [hlen]; decide)] at h1
        have h2 := hg 2 _ rfl
        replace h2 : DataW.trod enc Try.prog w base (fun _ => true) held n' 33 [c0, c1, c2, c3, c4, c5, c6, c7, c8] = xs[2]? := h2
        rw [List.getElem?_eq_getElem (by rw [hlen]; decide)] at h2
        obtain ⟨zd, qd, _, _⟩ := DataW.trod_int (k := .i64) Try.underlying3 h0
        have pd : [e0] = [.int .i64 zd] := qd
        obtain ⟨zn, qn, _, _⟩ := DataW.trod_int (k := .i64) Try.underlying3 h1
        have pn : [e1] = [.int .i64 zn] := qn
        obtain ⟨z0, z1, z2, z3, z4, z5, z6, z7, D8, bs8, d8, e, _, _, _, _, _, _, hs⟩ := packet_fields h2
        simp only [List.cons.injEq, and_true] at pd pn e
        obtain ⟨rfl, rfl, rfl, rfl, rfl, rfl, rfl, rfl, rfl⟩ := e
        subst pd pn
        have a0 := hat 0 (by omega)
        have a1 := hat 1 (by omega)
        have a2 := hat 2 (by omega)
        have a3 := hat 3 (by omega)
        have a4 := hat 4 (by omega)
        have a5 := hat 5 (by omega)
        have a6 := hat 6 (by omega)
        have a7 := hat 7 (by omega)
        have a8 := hat 8 (by omega)
        have a9 := hat 9 (by omega)
        have a10 := hat 10 (by omega)
        simp only [add_lit'] at a0 a1 a2 a3 a4 a5 a6 a7 a8 a9 a10
        exact ⟨zd, zn, z0, z1, z2, z3, z4, z5, z6, z7, D8, bs8, d8, a0, a1, a2, a3, a4, a5, a6, a7, a8, a9, a10, hs⟩
end
end Go.Proofs.Ytpdkoooecnmjjaa
