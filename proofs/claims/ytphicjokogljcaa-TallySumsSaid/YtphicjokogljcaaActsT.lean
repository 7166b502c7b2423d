/-
  A slice of acts (five integers each) that came in.
-/
import Derived.Test.YtphicjokogljcaaAmong
import Derived.Lib.SmallJoins
import Derived.Deep.Slices
import Derived.OpenShut
namespace Go.Proofs.Ytphicjokogljcaa
open Go.Joins Go.ChangeShapes Go.WideShapes Go.RowKit Go.Deep

def ActAt (w : World) (b off i : Nat) : Prop := ∃ x0 x1 x2 x3 x4 : Int,
  w.cell? ⟨b, off + i * 5, none⟩ = some (.int .i64 x0) ∧ w.cell? ⟨b, off + i * 5 + 1, none⟩ = some (.int .i64 x1) ∧ w.cell? ⟨b, off + i * 5 + 2, none⟩ = some (.int .i64 x2) ∧ w.cell? ⟨b, off + i * 5 + 3, none⟩ = some (.int .i64 x3) ∧ w.cell? ⟨b, off + i * 5 + 4, none⟩ = some (.int .i64 x4)
def Acts (w : World) (a : Option Addr) (len : Nat) : Prop := len = 0 ∨ ∃ b off, a = some ⟨b, off, none⟩ ∧ ∀ i, i < len → ActAt w b off i
theorem keep_below {w w' : World} (hb : Below w.heap.size w w') : ∀ a v, w.cell? a = some v → w'.cell? a = some v := fun a v h => by rw [hb.cell (World.block_lt_of_cell? w _ h)]; exact h

section
variable {H : Type} {enc : TypeId × Value → H} {w : World} {base : Nat} {held : Bool}
theorem add_lit' (b off m : Nat) : (⟨b, off, none⟩ : Addr).add m = ⟨b, off + m, none⟩ := by
  unfold Addr.add
  split <;> simp_all
theorem acts_open {r : Reach} {b0 : Nat} {v : Value} {d : DataW H} {p : List MemPlace} (hv : Value.okWide Try.prog w r b0 37 v) (h : DataW.Trod enc Try.prog w base (fun _ => true) held 37 v d p) :
    ∃ a len cap, v = .slice a len cap ∧ Acts w a len ∧ len ≤ 9223372036854775807 := by
  obtain ⟨a, len, cap, rfl⟩ := okWide_slice Try.underlying37 hv
  refine ⟨a, len, cap, rfl, ?_⟩
  obtain ⟨fuel, hf⟩ := h
  rcases Deep.open_slice Try.underlying37 hf with ⟨hcs, _⟩ | ⟨x, l, c, m, n, D, Pl, hcs, _, hl, hm, hmm, _, hi⟩
  · simp [Value.cells] at hcs
    exact ⟨.inl hcs.2.1, by omega⟩
  · simp [Value.cells] at hcs
    obtain ⟨rfl, rfl, rfl⟩ := hcs
    have hml : len ≤ m := by rw [hmm]; split <;> omega
    refine ⟨?_, by simp only [maxLen] at hm; omega⟩
    rcases Nat.eq_zero_or_pos len with h0 | h0
    · exact .inl h0
    · right
      obtain ⟨b, off, spot⟩ := x
      have e4 : Try.prog.cellsOf 42 = 5 := by kernel_rfl
      rw [e4] at hi
      have hsp : spot = none := by
        obtain ⟨cs', hc, ht⟩ := hi 0 (by omega)
        obtain ⟨_, hcl, hat⟩ := World.cells?_some hc
        have := hat 0 (by omega)
        rw [List.getElem?_eq_getElem (by omega)] at this
        have := World.cell?_spot this
        simpa [Addr.add] using this
      subst hsp
      refine ⟨b, off, rfl, fun i hil => ?_⟩
      obtain ⟨cs', hc, ht⟩ := hi i (by omega)
      obtain ⟨_, hcl, hat⟩ := World.cells?_some hc
      obtain ⟨ys, n', _, _, _, hyl, hg⟩ := DataW.trod_struct Try.underlying42 ht
      have g0 := hg 0 _ rfl
      have g1 := hg 1 _ rfl
      have g2 := hg 2 _ rfl
      have g3 := hg 3 _ rfl
      have g4 := hg 4 _ rfl
      match cs', hcl, ys, hyl with
      | [c0, c1, c2, c3, c4], _, [y0, y1, y2, y3, y4], _ =>
        have a0 := hat 0 (by omega)
        have a1 := hat 1 (by omega)
        have a2 := hat 2 (by omega)
        have a3 := hat 3 (by omega)
        have a4 := hat 4 (by omega)
        simp only [add_lit'] at a0 a1 a2 a3 a4
        obtain ⟨z0, q0, _, w0⟩ := DataW.trod_int (k := .i64) Try.underlying3 g0
        obtain ⟨z1, q1, _, w1⟩ := DataW.trod_int (k := .i64) Try.underlying3 g1
        obtain ⟨z2, q2, _, w2⟩ := DataW.trod_int (k := .i64) Try.underlying3 g2
        obtain ⟨z3, q3, _, w3⟩ := DataW.trod_int (k := .i64) Try.underlying3 g3
        obtain ⟨z4, q4, _, w4⟩ := DataW.trod_int (k := .i64) Try.underlying3 g4
        have p0 : [c0] = [.int .i64 z0] := q0
        have p1 : [c1] = [.int .i64 z1] := q1
        have p2 : [c2] = [.int .i64 z2] := q2
        have p3 : [c3] = [.int .i64 z3] := q3
        have p4 : [c4] = [.int .i64 z4] := q4
        simp only [List.cons.injEq, and_true] at p0 p1 p2 p3 p4
        subst p0 p1 p2 p3 p4
        exact ⟨z0, z1, z2, z3, z4, a0, a1, a2, a3, a4⟩
end
end Go.Proofs.Ytphicjokogljcaa
