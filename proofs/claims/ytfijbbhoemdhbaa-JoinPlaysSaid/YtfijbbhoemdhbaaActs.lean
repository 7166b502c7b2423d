/-
  A slice of acts that came in.
-/
import Derived.Test.YtfijbbhoemdhbaaBytes
import Derived.Lib.SmallJoins
import Derived.Deep.Slices
import Derived.OpenShut
namespace Go.Proofs.Ytfijbbhoemdhbaa
open Go.Joins Go.ChangeShapes Go.WideShapes Go.RowKit Go.Deep

/-- The i-th act of the row at ⟨b, off⟩. -/
def ActAt (w : World) (b off i : Nat) : Prop := ∃ (d n t : Int) (A : Option Addr) (c : Nat) (bs : List UInt8),
  w.cell? ⟨b, off + i * 4, none⟩ = some (.int .i64 d) ∧ w.cell? ⟨b, off + i * 4 + 1, none⟩ = some (.int .i64 n) ∧ w.cell? ⟨b, off + i * 4 + 2, none⟩ = some (.int .u32 t) ∧ w.cell? ⟨b, off + i * 4 + 3, none⟩ = some (.slice A bs.length c) ∧ Sl w A c bs ∧
  (Lit.int .i64 d).wf = true ∧ (Lit.int .i64 n).wf = true ∧ (Lit.int .u32 t).wf = true
def Acts (w : World) (a : Option Addr) (len : Nat) : Prop := len = 0 ∨ ∃ b off, a = some ⟨b, off, none⟩ ∧ ∀ i, i < len → ActAt w b off i

section
variable {H : Type} {enc : TypeId × Value → H} {w : World} {base : Nat} {held : Bool}
theorem bytes_field {fuel : Nat} {v : Value} {x : DataW H × List MemPlace} (h : DataW.trod enc Try.prog w base (fun _ => true) held fuel 23 [v] = some x) : ∃ A c bs, v = .slice A (bs : List UInt8).length c ∧ Sl w A c bs := by
  rcases open_ints Try.underlying23 Try.underlying5 (by kernel_rfl) h with ⟨hcs, _⟩ | ⟨x, l, c, zs, hcs, _, hl, hm, hz, _, hcell, hwz⟩
  · simp at hcs
    obtain ⟨bs, hb, hs⟩ := row_sl (w := w) (a := none) (len := 0) (cap := 0) (zs := []) (.inl ⟨rfl, rfl, rfl, rfl⟩)
    exact ⟨none, 0, bs, by rw [hb]; exact hcs, hs⟩
  · simp at hcs
    obtain ⟨bs, hb, hs⟩ := row_sl (w := w) (a := some x) (len := l) (cap := c) (zs := zs) (.inr ⟨_, rfl, hl, hm, by simpa using hz, hcell, hwz⟩)
    exact ⟨some x, c, bs, by rw [hb]; exact hcs, hs⟩

theorem acts_open {r : Reach} {b0 : Nat} {v : Value} {d : DataW H} {p : List MemPlace} (hv : Value.okWide Try.prog w r b0 43 v) (h : DataW.Trod enc Try.prog w base (fun _ => true) held 43 v d p) :
    ∃ a len cap, v = .slice a len cap ∧ Acts w a len ∧ len ≤ 9223372036854775807 := by
  obtain ⟨a, len, cap, rfl⟩ := okWide_slice Try.underlying43 hv
  refine ⟨a, len, cap, rfl, ?_⟩
  obtain ⟨fuel, hf⟩ := h
  rcases Deep.open_slice Try.underlying43 hf with ⟨hcs, _⟩ | ⟨x, l, c, m, n, D, Pl, hcs, _, hl, hm, hmm, _, hi⟩
  · simp [Value.cells] at hcs
    exact ⟨.inl hcs.2.1, by omega⟩
  · simp [Value.cells] at hcs
    obtain ⟨rfl, rfl, rfl⟩ := hcs
    have hml : len ≤ m := by rw [hmm]; split <;> omega
    refine ⟨?_, by simp only [maxLen] at hm; omega⟩
    rcases Nat.eq_zero_or_pos len with h0 | h0
    · exact .inl h0
    · right
      obtain ⟨b, off, spot⟩ := x
      have e4 : Try.prog.cellsOf 48 = 4 := by kernel_rfl
      rw [e4] at hi
      have hsp : spot = none := by
        obtain ⟨cs', hc, ht⟩ := hi 0 (by omega)
        obtain ⟨_, hcl, hat⟩ := World.cells?_some hc
        have := hat 0 (by omega)
        rw [List.getElem?_eq_getElem (by omega)] at this
        have := World.cell?_spot this
        simpa [Addr.add] using this
      subst hsp
      refine ⟨b, off, rfl, fun i hil => ?_⟩
      obtain ⟨cs', hc, ht⟩ := hi i (by omega)
      obtain ⟨_, hcl, hat⟩ := World.cells?_some hc
      obtain ⟨y0, y1, y2, y3, n', _, _, h0, h1, h2, h3⟩ := trod_struct4 Try.underlying48 ht
      match cs', hcl with
      | [c0, c1, c2, c3], _ =>
        have a0 := hat 0 (by omega)
        have a1 := hat 1 (by omega)
        have a2 := hat 2 (by omega)
        have a3 := hat 3 (by omega)
        simp only [add_lit'] at a0 a1 a2 a3
        obtain ⟨z0, q0, _, w0⟩ := DataW.trod_int (k := .i64) Try.underlying3 h0
        obtain ⟨z1, q1, _, w1⟩ := DataW.trod_int (k := .i64) Try.underlying3 h1
        obtain ⟨z2, q2, _, w2⟩ := DataW.trod_int (k := .u32) Try.underlying22 h2
        obtain ⟨A, c, bs, q3, hs⟩ := bytes_field (v := c3) h3
        have p0 : [c0] = [.int .i64 z0] := q0
        have p1 : [c1] = [.int .i64 z1] := q1
        have p2 : [c2] = [.int .u32 z2] := q2
        simp only [List.cons.injEq, and_true] at p0 p1 p2
        subst p0 p1 p2 q3
        exact ⟨z0, z1, z2, A, c, bs, a0, a1, a2, a3, hs, w0, w1, w2⟩
end
end Go.Proofs.Ytfijbbhoemdhbaa
