/-
  What the law FragBounds needs of Add.
-/
import Derived.Test.YtpdkoooecnmjjaaFragV
namespace Go.Proofs.Ytpdkoooecnmjjaa
open Go.RowKit
set_option linter.unusedVariables false

/-- What Add hands back, and what it leaves, as FragBounds asks it. -/
def AddB (B tb : Nat) (wait tm ls : Int) (w : World) (e : Ending) (w' : World) : Prop :=
  ∃ (i1 i2 i3 i4 : Int) (b1 b2 : Bool) (i5 i6 : Int) (D : Option Addr) (n q : Nat) (ok : Bool) (er : Int), e = .returned (.tuple #[.agg (pkV i1 i2 i3 i4 b1 b2 i5 i6 D n q), .bool ok, .int .i64 er]) ∧ Below B w w' ∧
    ∃ (nw : Int) (A : Option Addr) (c : Nat) (L : List WX), nw ≤ tm ∧ TAt w' B tb wait nw A c L ∧ L.length ≤ 8 ∧ ((er = 0 ∧ ∀ x ∈ L, x.began ≤ tm) ∨ (er ≠ 0 ∧ ∀ x ∈ L, x.began ≤ ls))
section
variable {B tb c : Nat} {wait now tm ls : Int} {A : Option Addr} {L : List WX} {p : Pk} {w w' : World} {e : Ending}
theorem filter_len {f : WX → Bool} {L : List WX} {n : Nat} (h : L.length ≤ n) : (L.filter f).length ≤ n := Nat.le_trans (List.length_filter_le _ _) h
theorem found_len {L1 L2 : List WX} {k : Nat} {x : WX} (h : Found tm p L1 L2 k x) (hl : L1.length ≤ 8) : L2.length ≤ 8 := by
  obtain ⟨_, ⟨rfl, _⟩ | ⟨g, _, h2, rfl, _⟩⟩ := h
  · exact hl
  · rw [List.length_append]
    have : [x].length = 1 := rfl
    omega
theorem found_mem {L1 L2 : List WX} {k : Nat} {x y : WX} (h : Found tm p L1 L2 k x) (hy : y ∈ L2.filter fun y => !(y.g == x.g)) : y ∈ L1 := by
  obtain ⟨hy1, hy2⟩ := List.mem_filter.1 hy
  obtain ⟨_, ⟨rfl, _⟩ | ⟨g, _, _, rfl, _⟩⟩ := h
  · exact hy1
  · rcases List.mem_append.1 hy1 with h1 | h1
    · exact h1
    · rw [List.mem_singleton.1 h1] at hy2
      simp at hy2
theorem add_bounds (hl : L.length ≤ 8) (hb : ∀ x ∈ L, x.began ≤ ls) (hn : now ≤ tm) (h : AddR B tb wait now A c L tm p w e w') : AddB B tb wait tm ls w e w' := by
  have hf : ∀ x ∈ L.filter (fun x => !oldB wait tm x), x.began ≤ ls := fun x hx => hb x (List.mem_filter.1 hx).1
  have hl1 := filter_len (f := fun x => !oldB wait tm x) hl
  obtain ⟨hbb, ⟨er, rfl, hE⟩ | ⟨bs, i1, i2, i3, i4, b1, b2, i5, i6, D, q, rfl, ho, hP⟩⟩ := h
  · refine ⟨0, 0, 0, 0, false, false, 0, 0, none, 0, 0, false, er, rfl, hbb, ?_⟩
    rcases hE with ⟨h1, h2, h3⟩ | ⟨h1, h2, ⟨h3, h4, h5⟩ | ⟨h3, h4, h5, h6, h7⟩ | ⟨h3, A', c', L2, k, x, h4, ⟨h5, h6, h7⟩ | ⟨h5, h6, h7, h8⟩ | ⟨h5, h6, x', h7, h8, h9, h10, h11⟩⟩⟩
    · exact ⟨now, A, c, L, hn, h3, hl, .inr ⟨h1, hb⟩⟩
    · exact ⟨tm, A, c, _, Int.le_refl _, h5, hl1, .inr ⟨h3, hf⟩⟩
    · exact ⟨tm, A, c, _, Int.le_refl _, h7, hl1, .inr ⟨by omega, hf⟩⟩
    · exact ⟨tm, A', c', _, Int.le_refl _, h7, filter_len (found_len h4 hl1), .inr ⟨by omega, fun y hy => hf y (found_mem h4 hy)⟩⟩
    · exact ⟨tm, A', c', _, Int.le_refl _, h8, filter_len (found_len h4 hl1), .inr ⟨by omega, fun y hy => hf y (found_mem h4 hy)⟩⟩
    · exact ⟨tm, A', c', _, Int.le_refl _, h11, by rw [List.length_set]; exact found_len h4 hl1, .inl ⟨h10, fun y hy => (h11.bg y hy).2⟩⟩
  · refine ⟨i1, i2, i3, i4, b1, b2, i5, i6, D, bs.length, q, true, 0, rfl, hbb, ?_⟩
    rcases hP with ⟨h0, ⟨h1, h2, h3⟩ | ⟨h1, h2, A', c', L2, k, x, h3, h4, h5, x', h6, h7, h8, h9, h10⟩⟩
    · exact ⟨tm, A, c, _, Int.le_refl _, h3, hl1, .inl ⟨rfl, fun y hy => (h3.bg y hy).2⟩⟩
    · exact ⟨tm, A', c', _, Int.le_refl _, h10, filter_len (by rw [List.length_set]; exact found_len h3 hl1), .inl ⟨rfl, fun y hy => (h10.bg y hy).2⟩⟩
/-- At the head of FragBounds' loop. -/
structure BndS (w : World) (B tb : Nat) (wait nw ls : Int) (k : Nat) (W : World) : Prop where
  n0 : 0 ≤ ls
  n1 : ls ≤ nw
  n2 : nw ≤ 9 * (k : Int)
  bel : Below w.heap.size w W
  base : w.heap.size ≤ B
  tab : ∃ (n : Int) (A : Option Addr) (c : Nat) (L : List WX), n ≤ nw ∧ TAt W B tb wait n A c L ∧ L.length ≤ 8 ∧ ∀ x ∈ L, x.began ≤ ls
/-- What Age leaves in the end: nothing. -/
theorem all_old (hb : ∀ x ∈ L, x.began ≤ ls) (hm : ls + wait ≤ tm) : L.filter (fun x => !oldB wait tm x) = [] := by
  rw [List.filter_eq_nil_iff]
  intro x hx
  have := hb x hx
  unfold oldB
  simp
  omega
end
end Go.Proofs.Ytpdkoooecnmjjaa
