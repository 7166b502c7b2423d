/-
  Rows of bytes of one's own, in a block of whatever type.
-/
import Derived.Test.YtpdkoooecnmjjaaBlk
import Derived.Laws.OwnMore
namespace Go.Proofs.Ytpdkoooecnmjjaa
open Go.RowKit

def u8 (n : Int) : UInt8 := UInt8.ofNat n.toNat
theorem u8_toNat (n : Int) (h0 : 0 ≤ n) (h1 : n < 256) : ((u8 n).toNat : Int) = n := by
  unfold u8
  rw [UInt8.toNat_ofNat']
  omega
theorem u8_of (x : UInt8) : u8 (x.toNat : Int) = x := by
  unfold u8
  rw [Int.toNat_natCast]
  exact UInt8.ofNat_toNat

def Row (t : TypeId) (w : World) (B : Nat) (A : Option Addr) (c : Nat) (bs : List UInt8) : Prop :=
  w.ownsRow B t 1 (.slice A bs.length c) bs.length (bs.map bval)

section
variable {t : TypeId} {w w' : World} {B g c : Nat} {A : Option Addr} {xs : List UInt8}
theorem Row.own (h : Row 5 w B A c xs) : Own w B A c xs := h
theorem Own.row (h : Own w B A c xs) : Row 5 w B A c xs := h
theorem Row.bs (h : Row t w B A c xs) : Bs w A xs := by
  by_cases hz : xs = []
  · exact .inl hz
  · rcases h.2 with ⟨_, h0⟩ | ⟨g, cap, cur, hv, _, hg, _, _, _, ht⟩
    · exact absurd (List.length_eq_zero_iff.1 h0) hz
    · injection hv with hA
      subst hA
      refine .inr ⟨g, 0, rfl, fun i hi => ?_⟩
      rw [Nat.zero_add, cell_of_row w g i cur _ (0, 0) hg]
      have : (cur.toList.take (xs.length * 1))[i]? = (xs.map bval)[i]? := by rw [ht]
      rw [List.getElem?_take, if_pos (by omega)] at this
      simp [List.getElem?_eq_getElem hi] at this
      rw [this]
      simp [bval, List.getD_eq_getElem?_getD, List.getElem?_eq_getElem hi]
theorem Row.sl (h : Row t w B A c xs) : Sl w A c xs := by
  refine ⟨h.bs, ?_⟩
  rcases h.2 with ⟨hv, h0⟩ | ⟨g, cap, cur, hv, _, hg, hc, hm, _, ht⟩
  · injection hv with h1 h2 h3
    exact ⟨by omega, by omega, fun _ => h3⟩
  · injection hv with h1 h2 h3
    subst h3
    exact ⟨hc, by simpa [maxLen] using hm, fun h => by rw [h] at h1; cases h1⟩
theorem Row.cell (h : Row t w B (some ⟨g, 0, none⟩) c xs) (j : Nat) (hj : j < xs.length) : w.cell? ⟨g, j, none⟩ = some (.int .u8 ((xs.getD j 0).toNat : Int)) := by
  have := World.ownsRow.cellAt h j (by omega)
  rw [this]
  simp [bval, List.getD_eq_getElem?_getD, List.getElem?_eq_getElem hj]
theorem Row.free (h : Row t w B (some ⟨g, 0, none⟩) c xs) (j : Nat) : w.frozen? ⟨g, j, none⟩ = false := World.ownsRow.frozenAt h j
theorem Row.set (h : Row t w B (some ⟨g, 0, none⟩) c xs) (j : Nat) (v : Int) (h0 : 0 ≤ v) (h1 : v < 256) :
    Row t (w.setCell ⟨g, j, none⟩ (.int .u8 v)) B (some ⟨g, 0, none⟩) c (xs.set j (u8 v)) := by
  have := (World.ownsRow.stored h j (.int .u8 v)).1
  unfold Row
  rw [List.length_set, List.map_set]
  have e : bval (u8 v) = .int .u8 v := by
    unfold bval
    rw [u8_toNat v h0 h1]
  rw [e]
  exact this
theorem Row.base {B' : Nat} (h : Row t w B A c xs) (hB : B' ≤ B) : Row t w B' A c xs := by
  refine ⟨h.1, ?_⟩
  rcases h.2 with h2 | ⟨g, cap, cur, hv, hb, r⟩
  · exact .inl h2
  · exact .inr ⟨g, cap, cur, hv, Nat.le_trans hB hb, r⟩
theorem Row.keep (h : Row t w B A c xs) (hb : Below w.heap.size w w') : Row t w' B A c xs :=
  World.ownsRow.kept (row := none) h ⟨hb.os, hb.tape, hb.output, hb.size, fun k hk _ => hb.block k hk⟩ (by
    cases hv : (Value.slice A xs.length c).ownBlock with
    | none => exact .inl rfl
    | some g => exact .inr (by simp))
theorem Row.drawn (h : Row t w B A c xs) (hd : Drawn w w') : Row t w' B A c xs := h.keep (hd.below _)
theorem Row.lt (h : Row t w B (some ⟨g, 0, none⟩) c xs) : B ≤ g ∧ g < w.heap.size := World.ownsRow.lt h g rfl
theorem Row.far (h : Row t w B (some ⟨g, 0, none⟩) c xs) {p : Addr} (hp : g ≠ p.block) (u : Value) : Row t (w.setCell p u) B (some ⟨g, 0, none⟩) c xs :=
  World.ownsRow.kept (row := some p.block) h ⟨rfl, rfl, rfl, by simp [World.setCell], fun k _ hk => Below.heap_setCell w p u k (fun e => hk (by rw [e]))⟩ (.inr (by simpa [Value.ownBlock] using hp))
theorem Row.form (h : Row t w B A c xs) (hp : 0 < xs.length) : ∃ g, A = some ⟨g, 0, none⟩ ∧ B ≤ g ∧ g < w.heap.size := by
  rcases h.2 with ⟨_, h0⟩ | ⟨g, cap, cur, hv, hb, hg, _⟩
  · omega
  · injection hv with h1
    exact ⟨g, h1, hb, (Array.getElem?_eq_some_iff.1 hg).1⟩
theorem cell_alloc_old {o : Obj} {p : Addr} {v : Value} (h : w.cell? p = some v) : (w.alloc o).cell? p = some v := keep_below ((Below.refl _ _).alloc (Nat.le_refl _) o) p v h
theorem cell_set_far {g i b off : Nat} {u x : Value} (h : w.cell? ⟨b, off, none⟩ = some x) (hne : b ≠ g) : (w.setCell ⟨g, i, none⟩ u).cell? ⟨b, off, none⟩ = some x := by
  rw [World.cell?_setCell_other _ _ _ _ (by intro h1; injection h1 with h2; first | exact hne h2 | exact hne h2.symm)]
  exact h
theorem own_ne_blk {B : Nat} {t : TypeId} {cs : Array Value} (h : Own w B A c xs) (hb : Blk w g t cs) (ht : t ≠ 5) : (Value.slice A xs.length c).ownBlock ≠ some g := by
  intro he
  rcases h.2 with ⟨hv, _⟩ | ⟨g', cap, cur, hv, _, hg, _⟩
  · rw [hv] at he
    cases he
  · rw [hv] at he
    simp [Value.ownBlock] at he
    subst he
    unfold Blk at hb
    rw [hb] at hg
    injection hg with hg
    injection hg with _ h2
    exact ht h2
theorem Own.past {B : Nat} {t : TypeId} {cs : Array Value} (h : Own w B A c xs) (hb : Blk w g t cs) (ht : t ≠ 5) (i : Nat) (u : Value) : Own (w.setCell ⟨g, i, none⟩ u) B A c xs :=
  own_set_far h (p := ⟨g, i, none⟩) (own_ne_blk h hb ht) u
theorem cell_alloc_swap {o o' : Obj} {p : Addr} {v : Value} (h : (w.alloc o).cell? p = some v) (hlt : p.block < w.heap.size) : (w.alloc o').cell? p = some v := by
  rw [((Below.refl w.heap.size w).alloc (Nat.le_refl _) o).cell hlt] at h
  exact cell_alloc_old h
theorem own_nil_blk {B : Nat} (h : Blk w g 5 #[]) (hB : B ≤ g) : Own w B (some ⟨g, 0, none⟩) 0 [] :=
  ⟨by simp, .inr ⟨g, 0, _, by simp, hB, h, by simp, by simp, by simp, by simp⟩⟩
theorem blk_top {t : TypeId} {cs : Array Value} (hg : g = w.heap.size) : Blk (w.alloc (.cells cs t)).drew g t cs := by subst hg; exact blk_new w t cs
theorem blk_under {t : TypeId} {cs : Array Value} {o : Obj} (hg : g = w.heap.size) : Blk ((w.alloc (.cells cs t)).alloc o).drew g t cs := by subst hg; exact blk_old (blk_new w t cs) o
theorem below_d1 {o : Obj} : Below w.heap.size w (w.alloc o).drew := below_drewN ((Below.refl _ _).alloc (Nat.le_refl _) o) 1
theorem below_d2 {o o' : Obj} : Below w.heap.size w ((w.alloc o).alloc o').drew := below_drewN (((Below.refl _ _).alloc (Nat.le_refl _) o).alloc (by simp) o') 1
theorem blk_w3 {t : TypeId} {cs : Array Value} {o : Obj} {n c : Nat} (hg : ((w.alloc (.cells cs t)).alloc o).drew.grownBy w' (Value.slice (some ⟨w.heap.size + 1, 0, none⟩) n c).ownBlock) : Blk w' w.heap.size t cs :=
  (hg.block w.heap.size (by simp; omega) (by simp [Value.ownBlock])).trans (blk_under rfl)
theorem blk_w2 {t : TypeId} {cs : Array Value} {o : Obj} {n c : Nat} (hg : ((w.alloc o).alloc (.cells cs t)).drew.grownBy w' (Value.slice (some ⟨w.heap.size, 0, none⟩) n c).ownBlock) : Blk w' (w.heap.size + 1) t cs :=
  (hg.block (w.heap.size + 1) (by simp) (by simp [Value.ownBlock])).trans (blk_top (by simp))
theorem blk_past {t : TypeId} {cs : Array Value} {o : Obj} {n c : Nat} (h : Blk w g t cs) (hg : (w.alloc o).drew.grownBy w' (Value.slice (some ⟨w.heap.size, 0, none⟩) n c).ownBlock) : Blk w' g t cs :=
  (hg.block g (by have := h.lt; simp; omega) (by have := h.lt; simp [Value.ownBlock]; omega)).trans (blk_old h o)
/-- A block that is known whole is a row. -/
theorem row_of_blk {n : Nat} (h : Blk w g t (xs.map bval).toArray) (hB : B ≤ g) (hl : xs.length = n) (hn : n ≤ 9223372036854775807) : Row t w B (some ⟨g, 0, none⟩) n xs := by
  subst hl
  exact ⟨by simp, .inr ⟨g, xs.length, _, rfl, hB, h, Nat.le_refl _, by simpa [maxLen] using hn, by simp, by simp [List.take_of_length_le]⟩⟩
theorem grown_set (g j : Nat) (u : Value) : w.grownBy (w.setCell ⟨g, j, none⟩ u) (some g) :=
  ⟨rfl, rfl, rfl, by simp [World.setCell], fun i _ hi => heap_setCell_other w ⟨g, j, none⟩ i _ (fun e => hi (by simp [e]))⟩
theorem grown_drewN (w : World) (n : Nat) (r : Option Nat) : w.grownBy (w.drewN n) r := ⟨rfl, rfl, rfl, Nat.le_refl _, fun _ _ _ => rfl⟩
theorem grown_drawn (hd : Drawn w w') (r : Option Nat) : w.grownBy w' r := by
  obtain ⟨n, rfl⟩ := hd
  exact grown_drewN w n r
theorem below_grown {a : World} {B : Nat} (h : Below B a w) (hg : w.grownBy w' (some g)) (hB : B ≤ a.heap.size) (hgB : B ≤ g) : Below B a w' :=
  h.grown hg (Nat.le_trans hB h.size) (fun k hk => by injection hk with hk; omega)
theorem below_grown0 {a : World} {B : Nat} (h : Below B a w) (hg : w.grownBy w' none) (hB : B ≤ a.heap.size) : Below B a w' :=
  h.grown hg (Nat.le_trans hB h.size) (fun k hk => by cases hk)
theorem Blk.grown {t : TypeId} {g' : Nat} {cs : Array Value} (h : Blk w g' t cs) (hg : w.grownBy w' (some g)) (hne : g' ≠ g) : Blk w' g' t cs :=
  (hg.block g' h.lt (by simpa using hne)).trans h
theorem Blk.below {t : TypeId} {cs : Array Value} {B : Nat} (h : Blk w g t cs) (hb : Below B w w') (hB : g < B) : Blk w' g t cs := (hb.block g hB).trans h
end
end Go.Proofs.Ytpdkoooecnmjjaa
