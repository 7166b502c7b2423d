/-
  A tally and the reference's, side by side; the walk of the law package's do.
-/
import Derived.Test.YtphicjokogljcaaPlainTally2
import Derived.Test.YtphicjokogljcaaActsT
import Derived.Deep.RegionHeld3
namespace Go.Proofs.Ytphicjokogljcaa
open Go.RowKit
set_option linter.unusedVariables false

/-- A tally at g and the reference's at h, made behind it, from block B on. -/
structure Two (w0 w : World) (g B h : Nat) (n : Nat) (f : Counts) (A : Option Addr) (c : Nat) (L : List Cnt) : Prop where
  t : TallyAt w g n f
  r : RefT w B h n A c L
  lt : g < B
  base : w0.heap.size ≤ g
  bel : Below w0.heap.size w0 w
/-- .. that tell the same; at most m were counted. -/
structure Both (w0 w : World) (g B h : Nat) (n m : Nat) (f : Counts) (A : Option Addr) (c : Nat) (L : List Cnt) : Prop extends Two w0 w g B h n f A c L where
  bk : Books L n f
  few : L.length ≤ m
theorem RefT.grown {w w' : World} {g B h c : Nat} {A : Option Addr} {L : List Cnt} {N : Int} (r : RefT w B h N A c L) (hg : w.grownBy w' (some g)) (hB : g < B) : RefT w' B h N A c L := by
  have hb := r.base
  refine ⟨(hg.block h r.lt (by intro e; injection e; omega)).trans r.blk, ?_, hb⟩
  refine World.ownsRow.kept (row := some g) r.own hg ?_
  cases hv : (Value.slice A L.length c).ownBlock with
  | none => exact .inl rfl
  | some q => exact .inr (by have := r.rowB q hv; simp; omega)
section
variable {w0 w w' : World} {g B h n m c : Nat} {f : Counts} {A : Option Addr} {L : List Cnt}
theorem Two.n16 (b : Two w0 w g B h n f A c L) : n ≤ 16 := by have := b.t.p1; omega
theorem Two.hlt (b : Two w0 w g B h n f A c L) : w0.heap.size ≤ w.heap.size := by have := b.base; have := b.t.lt; omega
theorem Two.below (b : Two w0 w g B h n f A c L) (hb : Below w.heap.size w w') : Two w0 w' g B h n f A c L :=
  ⟨b.t.keep (hb.block g b.t.lt), b.r.below hb, b.lt, b.base, b.bel.trans (hb.mono b.hlt)⟩
theorem Both.below (b : Both w0 w g B h n m f A c L) (hb : Below w.heap.size w w') : Both w0 w' g B h n m f A c L := ⟨b.toTwo.below hb, b.bk, b.few⟩
theorem Both.more (b : Both w0 w g B h n m f A c L) {m' : Nat} (hm : m ≤ m') : Both w0 w g B h n m' f A c L := ⟨b.toTwo, b.bk, Nat.le_trans b.few hm⟩
theorem Two.x (b : Two w0 w g B h n f A c L) {f' : Counts} (ht : TallyAt w' g n f') (hg : w.grownBy w' (some g)) : Two w0 w' g B h n f' A c L :=
  ⟨ht, b.r.grown hg b.lt, b.lt, b.base, b.bel.grown hg b.hlt (fun k hk => by have := b.base; injection hk; omega)⟩
theorem Two.y (b : Two w0 w g B h n f A c L) {A' : Option Addr} {c' : Nat} {L' : List Cnt} (hr : RefT w' B h n A' c' L') (hb : Below B w w') : Two w0 w' g B h n f A' c' L' :=
  ⟨b.t.keep (hb.block g b.lt), hr, b.lt, b.base, b.bel.trans (hb.mono (by have := b.base; have := b.lt; omega))⟩
end
theorem belowD (w : World) (B : Nat) : Below B w w.drew := ⟨rfl, rfl, rfl, Nat.le_refl _, fun _ _ => rfl⟩
/-- A block that neither of them has. -/
structure Away (w : World) (g h : Nat) (A : Option Addr) (L : List Cnt) (c : Nat) (G : Nat) (t : TypeId) (cs : Array Value) : Prop where
  blk : Blk w G t cs
  g : G ≠ g
  h : G ≠ h
  row : some G ≠ (Value.slice A L.length c).ownBlock
theorem away_new {w0 w : World} {g B h n c : Nat} {f : Counts} {A : Option Addr} {L : List Cnt} (b : Two w0 w g B h n f A c L) (t : TypeId) (cs : Array Value) : Away (w.alloc (.cells cs t)) g h A L c w.heap.size t cs := by
  refine ⟨heap_alloc_new w _, by have := b.t.lt; omega, by have := b.r.lt; omega, ?_⟩
  intro he
  have := (World.ownsRow.lt b.r.own w.heap.size he.symm).2
  omega
theorem Away.below {w w' : World} {g h c : Nat} {A : Option Addr} {L : List Cnt} {G : Nat} {t : TypeId} {cs : Array Value} (a : Away w g h A L c G t cs) (hb : Below w.heap.size w w') : Away w' g h A L c G t cs := ⟨(hb.block G a.blk.lt).trans a.blk, a.g, a.h, a.row⟩
theorem Away.x {w w' : World} {g h c : Nat} {A : Option Addr} {L : List Cnt} {G : Nat} {t : TypeId} {cs : Array Value} (a : Away w g h A L c G t cs) (hg : w.grownBy w' (some g)) : Away w' g h A L c G t cs :=
  ⟨(hg.block G a.blk.lt (by have := a.g; simp; omega)).trans a.blk, a.g, a.h, a.row⟩
theorem Away.y {w w' : World} {g h c : Nat} {A : Option Addr} {L : List Cnt} {G : Nat} {t : TypeId} {cs : Array Value} (a : Away w g h A L c G t cs) (hk : Kept h (Value.slice A L.length c).ownBlock w w') : Blk w' G t cs :=
  (hk G a.blk.lt a.h a.row).trans a.blk
def DoneP (w0 : World) (g B h n m : Nat) (f : Counts) (A : Option Addr) (c : Nat) (L : List Cnt) (w : World) (e : Ending) (w' : World) : Prop :=
  e = .returned (.bool true) ∧ (∃ f A c L, Both w0 w' g B h n (m + 1) f A c L) ∧ ∀ G t cs, Away w g h A L c G t cs → Blk w' G t cs

set_option maxHeartbeats 8000000 in
set_option maxRecDepth 100000 in
theorem do_any (w0 : World) (g B h n m : Nat) (f : Counts) (A : Option Addr) (c : Nat) (L : List Cnt) (d p k i o : Int) (w : World) (b : Both w0 w g B h n m f A c L) (hm : m < 60) :
    Calls Try.prog 16 #[.pointer (some ⟨g, 0, none⟩), .pointer (some ⟨h, 0, none⟩), .agg #[.int .i64 d, .int .i64 p, .int .i64 k, .int .i64 i, .int .i64 o]] w (DoneP w0 g B h n m f A c L w) := by
  have hst : Both w0 (w.alloc (.cells #[.int .i64 d, .int .i64 p, .int .i64 k, .int .i64 i, .int .i64 o] 42)) g B h n m f A c L := b.below ((Below.refl _ _).alloc (Nat.le_refl _) _)
  have hbx := away_new b.toTwo 42 #[.int .i64 d, .int .i64 p, .int .i64 k, .int .i64 i, .int .i64 o]
  have AW : Hid (∀ G t cs, Away w g h A L c G t cs → Away (w.alloc (.cells #[.int .i64 d, .int .i64 p, .int .i64 k, .int .i64 i, .int .i64 o] 42)) g h A L c G t cs) := fun G t cs a => a.below ((Below.refl _ _).alloc (Nat.le_refl _) _)
  clear b
  go_enter Try.func16, Try.ntmps16
  go_wp2_with fail
  generalize w.alloc (.cells #[.int .i64 d, .int .i64 p, .int .i64 k, .int .i64 i, .int .i64 o] 42) = W at *
  generalize w.heap.size = G at *
  have HB := Lib.hid hst
  have HX := Lib.hid hbx
  have l0 := hst.few
  have hn16 := hst.n16
  clear hst hbx
  refine (among_any d 6 _ (by omega) (by omega)).mono ?_
  rintro e w2 ⟨rfl, rfl⟩
  have c1 := HX.out.blk.cell 1
  have c2 := HX.out.blk.cell 2
  have c3 := HX.out.blk.cell 3
  have c4 := HX.out.blk.cell 4
  simp only [List.getElem?_toArray, List.getElem?_cons_zero, List.getElem?_cons_succ] at c1 c2 c3 c4
  cases hq : (among d 6 == 5)
  · go_wp2_with fail
    go_region_held3 (fun w' => w'.cell? ⟨G, 1, none⟩ = some (.int .i64 p) ∧ w'.cell? ⟨G, 2, none⟩ = some (.int .i64 k) ∧ w'.cell? ⟨G, 3, none⟩ = some (.int .i64 i) ∧ w'.cell? ⟨G, 4, none⟩ = some (.int .i64 o))
      ((refine ⟨?_, ?_, ?_, ?_⟩
        · first | (with_reducible assumption) | (exact HX4.out.cell 1) | (exact HX3.out.blk.cell 1) | (exact HX.out.blk.cell 1)
        · first | (with_reducible assumption) | (exact HX4.out.cell 2) | (exact HX3.out.blk.cell 2) | (exact HX.out.blk.cell 2)
        · first | (with_reducible assumption) | (exact HX4.out.cell 3) | (exact HX3.out.blk.cell 3) | (exact HX.out.blk.cell 3)
        · first | (with_reducible assumption) | (exact HX4.out.cell 4) | (exact HX3.out.blk.cell 4) | (exact HX.out.blk.cell 4)))
      (first
        | (go_at_call 13
           refine (tadd_any g n p k i o f _ (HB.out.below (belowD _ _)).t).mono ?_
           rintro e w3 ⟨rfl, ht3, hg3⟩
           have HX3 := Lib.hid ((HX.out.below (belowD _ _)).x hg3)
           have HT3 := Lib.hid ((HB.out.below (belowD _ _)).toTwo.x ht3 hg3)
           have HG3 := Lib.hid hg3
           clear ht3 hg3)
        | (go_at_call 27
           refine (radd_any B h c n A L p k i o _ HT3.out.r (HB.out.bk.few (by have := HB.out.few; omega)) (by have := HB.out.few; omega)).mono ?_
           rintro e w4 ⟨rfl, ⟨A4, c4', hr4⟩, hb4, hk4⟩
           have HX4 := Lib.hid (HX3.out.y hk4)
           have HK4 := Lib.hid hk4
           have HT4 := Lib.hid (HT3.out.y hr4 hb4)
           clear hr4 hb4 hk4))
    have HE := books_addE HB.out.bk hn16 p k i o
    rw [HE]
    go_wp2_with fail
    go_ret
    refine ⟨by simp, ⟨_, _, _, _, HT4.out, (books_add HB.out.bk hn16 p k i o).1, Nat.le_trans (books_add HB.out.bk hn16 p k i o).2 (by omega)⟩, fun G t cs a => ?_⟩
    exact (((AW.out G t cs a).below (belowD _ _)).x HG3.out).y HK4.out
  · go_wp2_with fail
    go_region_held3 (fun w' => w'.cell? ⟨G, 1, none⟩ = some (.int .i64 p))
      (first | (with_reducible assumption) | (exact HX4.out.cell 1) | (exact HX3.out.blk.cell 1) | (exact HX.out.blk.cell 1))
      (first
        | (go_at_call 21
           refine (tclear_any g n p f _ (HB.out.below (belowD _ _)).t).mono ?_
           rintro e w3 ⟨rfl, ht3, hg3⟩
           have HX3 := Lib.hid ((HX.out.below (belowD _ _)).x hg3)
           have HT3 := Lib.hid ((HB.out.below (belowD _ _)).toTwo.x ht3 hg3)
           have HG3 := Lib.hid hg3
           clear ht3 hg3)
        | (go_at_call 26
           refine (rclear_any B h c n A L p _ HT3.out.r (by have := HB.out.few; omega) (Value.slice A L.length c).ownBlock).mono ?_
           rintro e w4 ⟨rfl, ⟨A4, c4', hr4⟩, hb4, hk4⟩
           have HX4 := Lib.hid (HX3.out.y hk4)
           have HK4 := Lib.hid hk4
           have HT4 := Lib.hid (HT3.out.y hr4 hb4)
           clear hr4 hb4 hk4))
    go_wp2_with fail
    go_ret
    refine ⟨by simp, ⟨_, _, _, _, HT4.out, (books_clear HB.out.bk p).1, Nat.le_trans (books_clear HB.out.bk p).2 (by omega)⟩, fun G t cs a => ?_⟩
    exact (((AW.out G t cs a).below (belowD _ _)).x HG3.out).y HK4.out
end Go.Proofs.Ytphicjokogljcaa
