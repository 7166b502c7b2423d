/-
  A whole that changes; the walk of grow.
-/
import Derived.Test.YtpdkoooecnmjjaaFragH
namespace Go.Proofs.Ytpdkoooecnmjjaa
open Go.RowKit
set_option linter.unusedVariables false

/-- A whole, its places left out. -/
structure WP where
  kf : Int
  kt : Int
  kk : Int
  ki : Int
  began : Int
  pieces : Int
  fin : Int
  hd : Bool
  data : List UInt8
  has : List Bool
  many : Int
def WX.pure (x : WX) : WP := ⟨x.kf, x.kt, x.kk, x.ki, x.began, x.pieces, x.fin, x.head.isSome, x.data, x.has, x.many⟩
/-- x' is x, later: its rows are the same ones or new ones. -/
structure Later (n : Nat) (x x' : WX) : Prop where
  g : x'.g = x.g
  d : ∀ k, dblk x' = some k → dblk x = some k ∨ n ≤ k
  h : ∀ k, hblk x' = some k → hblk x = some k ∨ n ≤ k
theorem Later.refl (n : Nat) (x : WX) : Later n x x := ⟨rfl, fun _ h => .inl h, fun _ h => .inl h⟩
theorem Later.trans {n m : Nat} {x y z : WX} (h1 : Later n x y) (h2 : Later m y z) (hn : n ≤ m) : Later n x z :=
  ⟨h2.g.trans h1.g, fun k hk => (h2.d k hk).elim (h1.d k) (fun h => .inr (Nat.le_trans hn h)), fun k hk => (h2.h k hk).elim (h1.h k) (fun h => .inr (Nat.le_trans hn h))⟩
section
variable {w w' : World} {B : Nat} {x y : WX}
/-- The blocks of two wholes. -/
theorem apart_free (ox : WAt w B x) (oy : WAt w B y) (h : Apart x y) : ∀ k, WF y k → ¬ WF x k := by
  rintro k (rfl | h1) (h2 | h2 | h2)
  · exact h.1 h2.symm
  · exact owns_ne ox.data oy.blk (by decide) h2
  · exact owns_ne ox.has oy.blk (by decide) h2
  · subst h2
    rcases h1 with h1 | h1
    · exact owns_ne oy.data ox.blk (by decide) h1
    · exact owns_ne oy.has ox.blk (by decide) h1
  · rcases h1 with h1 | h1
    · exact h.2.1 k h2 h1
    · obtain ⟨cs, hb⟩ := owns_typed oy.has h1
      exact owns_ne ox.data hb (by decide) h2
  · rcases h1 with h1 | h1
    · obtain ⟨cs, hb⟩ := owns_typed oy.data h1
      exact owns_ne ox.has hb (by decide) h2
    · exact h.2.2 k h2 h1
theorem head_free {h : Nat} (ox : WAt w B x) (oy : HeadAt w B h) : ¬ WF x h := by
  obtain ⟨_, a, b, c, d, e, f, g, i, D, n, q, hb⟩ := oy
  rintro (rfl | h1 | h1)
  · have h2 := ox.blk
    unfold Blk at h2 hb
    rw [hb] at h2
    injection h2 with h2
    injection h2 with _ h2
    exact absurd h2 (by decide)
  · exact owns_ne ox.data hb (by decide) h1
  · exact owns_ne ox.has hb (by decide) h1
theorem WF.lt (o : WAt w B x) : ∀ k, WF x k → k < w.heap.size := by
  rintro k (rfl | h | h)
  · exact o.blk.lt
  · exact (World.ownsRow.lt o.data k h).2
  · exact (World.ownsRow.lt o.has k h).2
theorem WF.base (o : WAt w B x) : ∀ k, WF x k → B ≤ k := by
  rintro k (rfl | h | h)
  · exact o.base
  · exact (World.ownsRow.lt o.data k h).1
  · exact (World.ownsRow.lt o.has k h).1
/-- A table of which one whole has changed. -/
theorem TAt.changed {tb c : Nat} {wait now : Int} {A : Option Addr} {L : List WX} (t : TAt w B tb wait now A c L) {k : Nat} {x' : WX} (hk : L[k]? = some x) (hl : Later w.heap.size x x') (ho : WAt w' B x') (hi : Winv x') (hb : x'.began = x.began) (hF : Frame (WF x) w w') :
    TAt w' B tb wait now A c (L.set k x') := by
  have hx : x ∈ L := List.mem_of_getElem? hk
  have hkl : k < L.length := (List.getElem?_eq_some_iff.1 hk).1
  have hmap : (L.set k x').map WX.g = L.map WX.g := by
    rw [List.map_set, hl.g]
    apply List.ext_getElem?
    intro i
    rw [List.getElem?_set]
    by_cases e : k = i
    · subst e
      rw [if_pos rfl, List.getElem?_map, hk, List.length_map, if_pos hkl]
      rfl
    · rw [if_neg e]
  have hmem : ∀ y, y ∈ L.set k x' → y = x' ∨ ∃ j, j ≠ k ∧ L[j]? = some y := by
    intro y hy
    obtain ⟨j, hj⟩ := List.getElem?_of_mem hy
    rw [List.getElem?_set] at hj
    by_cases e : k = j
    · subst e
      simp [hkl] at hj
      exact .inl hj.symm
    · rw [if_neg e] at hj
      exact .inr ⟨j, fun h => e h.symm, hj⟩
  have hap : ∀ j y, j ≠ k → L[j]? = some y → Apart x y := by
    intro j y hj hy
    have hp := List.pairwise_iff_getElem.1 t.apart
    obtain ⟨hj1, hj2⟩ := List.getElem?_eq_some_iff.1 hy
    obtain ⟨hk1, hk2⟩ := List.getElem?_eq_some_iff.1 hk
    rcases Nat.lt_or_gt_of_ne hj with h | h
    · have := hp j k hj1 hk1 h
      rw [hj2, hk2] at this
      exact this.symm
    · have := hp k j hk1 hj1 h
      rw [hj2, hk2] at this
      exact this
  have hfree := t.whole_free hx
  have hap' : ∀ j y, j ≠ k → L[j]? = some y → Apart x' y := by
    intro j y hj hy
    have ha := hap j y hj hy
    have hy' := t.each y (List.mem_of_getElem? hy)
    refine ⟨by rw [hl.g]; exact ha.1, fun i h1 h2 => ?_, fun i h1 h2 => ?_⟩
    · rcases hl.d i h1 with h | h
      · exact ha.2.1 i h h2
      · have := (World.ownsRow.lt hy'.data i h2).2
        omega
    · rcases hl.h i h1 with h | h
      · exact ha.2.2 i h h2
      · have := (World.ownsRow.lt hy'.has i h2).2
        omega
  refine ⟨by rw [List.length_set]; exact t.blk.framed hF (fun h => hfree.1 _ h (.inl rfl)), ?_, fun y hy => ?_, fun y hy => ?_, ?_, t.base, t.n0, fun y hy => ?_, t.w0, t.w1⟩
  · rw [hmap]
    refine owns_framed t.row hF (fun i hi h => hfree.1 i h (.inr ?_))
    rw [List.length_map] at hi
    exact hi
  · rcases hmem y hy with rfl | ⟨j, hj, hy'⟩
    · exact ho
    · have hyl := List.mem_of_getElem? hy'
      exact (t.each y hyl).framed hF (fun i hi => apart_free (t.each x hx) (t.each y hyl) (hap j y hj hy') i hi) (fun h hh => head_free (t.each x hx) ((t.each y hyl).head h hh))
  · rcases hmem y hy with rfl | ⟨j, hj, hy'⟩
    · exact hi
    · exact t.inv y (List.mem_of_getElem? hy')
  · rw [List.pairwise_iff_getElem]
    intro i j hi hj hij
    rw [List.length_set] at hi hj
    rw [List.getElem_set, List.getElem_set]
    have hp := List.pairwise_iff_getElem.1 t.apart i j hi hj hij
    by_cases e1 : k = i
    · subst e1
      rw [if_pos rfl, if_neg (by omega)]
      exact hap' j _ (by omega) (List.getElem?_eq_getElem hj)
    · rw [if_neg e1]
      by_cases e2 : k = j
      · rw [if_pos e2]
        exact (hap' i _ (fun h => e1 h.symm) (List.getElem?_eq_getElem hi)).symm
      · rw [if_neg e2]
        exact hp
  · rcases hmem y hy with rfl | ⟨j, hj, hy'⟩
    · rw [hb]
      exact t.bg x hx
    · exact t.bg y (List.mem_of_getElem? hy')
end
end Go.Proofs.Ytpdkoooecnmjjaa
