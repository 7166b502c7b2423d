/-
  The walks of tally.New, is, at, few, Add, Get.
-/
import Derived.Test.YtphicjokogljcaaTally1
import Derived.Deep.QuietTactic
import Derived.BigQuiet
import Derived.LaidEqlPtr
namespace Go.Proofs.Ytphicjokogljcaa
open Go.RowKit

/-- A block that is known whole. -/
def Blk (w : World) (g : Nat) (t : TypeId) (cs : Array Value) : Prop := w.heap[g]? = some (.cells cs t (0, 0))
theorem Blk.lt {w : World} {g : Nat} {t : TypeId} {cs : Array Value} (h : Blk w g t cs) : g < w.heap.size := (Array.getElem?_eq_some_iff.1 h).1
theorem Blk.cell {w : World} {g : Nat} {t : TypeId} {cs : Array Value} (h : Blk w g t cs) (i : Nat) : w.cell? ⟨g, i, none⟩ = cs[i]? := cell_of_row w g i cs t (0, 0) h
theorem Blk.free {w : World} {g : Nat} {t : TypeId} {cs : Array Value} (h : Blk w g t cs) (i : Nat) : w.frozen? ⟨g, i, none⟩ = false := by
  unfold Blk at h
  simp [World.frozen?, h]
theorem Blk.set {w : World} {g : Nat} {t : TypeId} {cs : Array Value} (h : Blk w g t cs) (i : Nat) (u : Value) : Blk (w.setCell ⟨g, i, none⟩ u) g t (cs.setIfInBounds i u) := by
  unfold Blk at h ⊢
  simp [World.setCell, Array.getElem?_modify, h]

/-- What a tally has: of the pair of a peer and a kind (at 8 * peer + kind) both parts. -/
abbrev Counts := Nat → Nat × Nat
structure TallyAt (w : World) (g : Nat) (P : Int) (f : Counts) : Prop where
  blk : ∃ cs, Blk w g 50 cs ∧ cs.size = 129 ∧ cs[128]? = some (.int .i64 P) ∧ ∀ i, i < 128 → cs[i]? = some (.complex .f64 (fl (f i).1) (fl (f i).2))
  p0 : 1 ≤ P
  p1 : P ≤ 16
  few : ∀ i, (f i).1 ≤ 70368744177664 ∧ (f i).2 ≤ 70368744177664

theorem TallyAt.peers {w : World} {g : Nat} {P : Int} {f : Counts} (h : TallyAt w g P f) : w.cell? ⟨g, 128, none⟩ = some (.int .i64 P) := by
  obtain ⟨cs, hb, _, hp, _⟩ := h.blk
  rw [hb.cell, hp]
theorem TallyAt.at_ {w : World} {g : Nat} {P : Int} {f : Counts} (h : TallyAt w g P f) (i : Nat) (hi : i < 128) : w.cell? ⟨g, i, none⟩ = some (.complex .f64 (fl (f i).1) (fl (f i).2)) := by
  obtain ⟨cs, hb, _, _, hc⟩ := h.blk
  rw [hb.cell, hc i hi]
theorem TallyAt.free {w : World} {g : Nat} {P : Int} {f : Counts} (h : TallyAt w g P f) (i : Nat) : w.frozen? ⟨g, i, none⟩ = false := by
  obtain ⟨cs, hb, _⟩ := h.blk
  exact hb.free i
theorem TallyAt.lt {w : World} {g : Nat} {P : Int} {f : Counts} (h : TallyAt w g P f) : g < w.heap.size := by
  obtain ⟨cs, hb, _⟩ := h.blk
  exact hb.lt
theorem TallyAt.keep {w w' : World} {g : Nat} {P : Int} {f : Counts} (h : TallyAt w g P f) (hk : w'.heap[g]? = w.heap[g]?) : TallyAt w' g P f := by
  obtain ⟨cs, hb, r⟩ := h.blk
  exact ⟨⟨cs, hk.trans hb, r⟩, h.p0, h.p1, h.few⟩
theorem TallyAt.set {w : World} {g : Nat} {P : Int} {f : Counts} (h : TallyAt w g P f) (i : Nat) (hi : i < 128) (a b : Nat) (ha : a ≤ 70368744177664) (hb : b ≤ 70368744177664) :
    TallyAt (w.setCell ⟨g, i, none⟩ (.complex .f64 (fl a) (fl b))) g P (fun j => if j = i then (a, b) else f j) := by
  obtain ⟨cs, hB, hs, hp, hc⟩ := h.blk
  refine ⟨⟨_, hB.set i _, by simp [hs], ?_, fun j hj => ?_⟩, h.p0, h.p1, fun j => ?_⟩
  · rw [Array.getElem?_setIfInBounds, if_neg (by omega), hp]
  · rw [Array.getElem?_setIfInBounds]
    by_cases e : i = j
    · subst e; simp [hs]; omega
    · rw [if_neg e, hc j hj, if_neg (fun e' => e e'.symm)]
  · have := h.few j
    by_cases e : j = i
    · simp only [e, if_true]; exact ⟨ha, hb⟩
    · simp only [e, if_false]; exact this

def zeroT : Array Value := (List.replicate 128 (Value.complex .f64 0 0) ++ [Value.int .i64 0]).toArray
theorem zeroT_size : zeroT.size = 129 := by unfold zeroT; rw [List.size_toArray, List.length_append, List.length_replicate]; rfl
theorem zeroT_run (w : World) : (zeroValue 50).run Try.prog w = .ok (.agg zeroT) w := by kernel_rfl

def NewTally (n : Int) (w : World) (e : Ending) (w' : World) : Prop :=
  e = .returned (.tuple #[.pointer (some ⟨w.heap.size, 0, none⟩), .int .i64 0]) ∧ TallyAt w' w.heap.size n (fun _ => (0, 0)) ∧ Below w.heap.size w w'

theorem tally_made (n : Int) (w : World) (h0 : 1 ≤ n) (h1 : n ≤ 16) : TallyAt (w.alloc (.cells (zeroT.setIfInBounds 128 (.int .i64 n)) 50)) w.heap.size n (fun _ => (0, 0)) := by
  refine ⟨⟨_, heap_alloc_new w _, by simp [zeroT_size], by simp [zeroT_size], fun i hi => ?_⟩, h0, h1, fun i => by simp⟩
  rw [Array.getElem?_setIfInBounds, if_neg (by omega), fl_zero]
  unfold zeroT
  rw [List.getElem?_toArray, List.getElem?_append_left (by rw [List.length_replicate]; exact hi), List.getElem?_replicate, if_pos hi]

set_option maxRecDepth 100000 in
theorem new_any (n : Int) (w : World) (h0 : 1 ≤ n) (h1 : n ≤ 16) :
    Calls Try.prog 12 #[.int .i64 n] w (NewTally n w) := by
  have hz := zeroT_run
  have hs := zeroT_size
  have hm := Lib.hid (tally_made n w h0 h1)
  go_enter Try.func12, Try.ntmps12
  go_wp2
  go_ret2
  exact ⟨rfl, hm.out, (Below.refl _ _).alloc (Nat.le_refl _) _⟩

theorem new_bad (n : Int) (w : World) (h : n < 1 ∨ 16 < n) :
    Calls Try.prog 12 #[.int .i64 n] w fun e w' => e = .returned (.tuple #[.pointer none, .int .i64 2]) ∧ w = w' := by
  rcases h with h | h
  · go_enter Try.func12, Try.ntmps12
    go_wp2
    go_ret2
    exact ⟨rfl, rfl⟩
  · have h' : ¬ n < 1 := by omega
    go_enter Try.func12, Try.ntmps12
    go_wp2
    go_ret2
    exact ⟨rfl, rfl⟩

def inT (P p k : Int) : Prop := 0 ≤ p ∧ p < P ∧ 0 ≤ k ∧ k < 8
instance (P p k : Int) : Decidable (inT P p k) := by unfold inT; infer_instance
def ix (p k : Int) : Nat := p.toNat * 8 + k.toNat

theorem at_yes (g : Nat) (P p k : Int) (w : World) (hc : w.cell? ⟨g, 128, none⟩ = some (.int .i64 P)) (h : inT P p k) (hP : P ≤ 16) :
    Calls Try.prog 24 #[.pointer (some ⟨g, 0, none⟩), .int .i64 p, .int .i64 k] w fun e w' => e = .returned (.pointer (some ⟨g, ix p k, none⟩)) ∧ w = w' := by
  obtain ⟨hp0, hp1, hk0, hk1⟩ := h
  go_enter Try.func24, Try.ntmps24
  go_wp2
  go_ret
  exact ⟨rfl, rfl⟩

theorem at_no (g : Nat) (P p k : Int) (w : World) (hc : w.cell? ⟨g, 128, none⟩ = some (.int .i64 P)) (h : ¬ inT P p k) (hP0 : 1 ≤ P) :
    Calls Try.prog 24 #[.pointer (some ⟨g, 0, none⟩), .int .i64 p, .int .i64 k] w fun e w' => e = .returned (.pointer none) ∧ w = w' := by
  have H := Lib.hid h
  clear h
  by_cases h1 : p < 0
  · go_enter Try.func24, Try.ntmps24
    go_wp2
    go_ret
    exact ⟨rfl, rfl⟩
  by_cases h2 : P ≤ p
  · go_enter Try.func24, Try.ntmps24
    go_wp2
    go_ret
    exact ⟨rfl, rfl⟩
  by_cases h3 : k < 0
  · go_enter Try.func24, Try.ntmps24
    go_wp2
    go_ret
    exact ⟨rfl, rfl⟩
  have h4 : 8 ≤ k := by have := H.out; unfold inT at this; omega
  go_enter Try.func24, Try.ntmps24
  go_wp2
  go_ret
  exact ⟨rfl, rfl⟩

def fewB (n : Int) : Bool := decide (0 ≤ n ∧ n ≤ 4294967296)
theorem few_any (n : Int) (w : World) : Calls Try.prog 25 #[.int .i64 n] w fun e w' => e = .returned (.bool (fewB n)) ∧ w = w' := by
  rcases Int.lt_or_le n 0 with h | h
  all_goals
    go_enter Try.func25, Try.ntmps25
    go_wp2
    go_ret
    exact ⟨congrArg (fun b => Ending.returned (.bool b)) (by unfold fewB; rw [Bool.eq_iff_iff]; simp; omega), rfl⟩

theorem is_yes (g : Nat) (P : Int) (w : World) (hc : w.cell? ⟨g, 128, none⟩ = some (.int .i64 P)) (hP0 : 1 ≤ P) :
    Calls Try.prog 23 #[.pointer (some ⟨g, 0, none⟩)] w fun e w' => e = .returned (.bool true) ∧ w = w' := by
  go_enter Try.func23, Try.ntmps23
  go_wp2
  go_ret
  exact ⟨congrArg (fun b => Ending.returned (.bool b)) (by simp; omega), rfl⟩

/-- What Add makes of the counts, and answers. -/
def ok2 (P p k i o : Int) : Prop := inT P p k ∧ fewB i = true ∧ fewB o = true
instance (P p k i o : Int) : Decidable (ok2 P p k i o) := by unfold ok2; infer_instance
def full (f : Counts) (p k i o : Int) : Prop := 70368744177664 < (f (ix p k)).1 + i.toNat ∨ 70368744177664 < (f (ix p k)).2 + o.toNat
instance (f : Counts) (p k i o : Int) : Decidable (full f p k i o) := by unfold full; infer_instance
def addE (P : Int) (f : Counts) (p k i o : Int) : Int := if ok2 P p k i o then (if full f p k i o then 4 else 0) else 2
def addF (P : Int) (f : Counts) (p k i o : Int) : Counts :=
  if ok2 P p k i o then (if full f p k i o then f else fun j => if j = ix p k then ((f (ix p k)).1 + i.toNat, (f (ix p k)).2 + o.toNat) else f j) else f

def Added (P : Int) (f : Counts) (p k i o : Int) (g : Nat) (w : World) (e : Ending) (w' : World) : Prop :=
  e = .returned (.int .i64 (addE P f p k i o)) ∧ TallyAt w' g P (addF P f p k i o) ∧ w.grownBy w' (some g)

theorem fl_most : fl 70368744177664 = 4814348001659060224 := by decide
theorem most_order (a : Nat) (h : a < 9007199254740992) : FloatKind.f64.format.order (fl a) 4814348001659060224 = some (compare a 70368744177664) := by
  rw [← fl_most, format_f64, order_fl a _ h (by omega)]
theorem csum (a b c d : Nat) (h : a + c < 9007199254740992) (h' : b + d < 9007199254740992) : cSumBits .add .f64 (fl a) (fl b) (fl c) (fl d) = some (fl (a + c), fl (b + d)) := by
  unfold cSumBits floatBits
  simp only [format_f64]
  rw [add_fl a c h, add_fl b d h']
  rfl
theorem grown_refl (w : World) (r : Option Nat) : w.grownBy w r := World.grownBy.refl w r
theorem grown_drewN (w : World) (n : Nat) (r : Option Nat) : w.grownBy (w.drewN n) r := ⟨rfl, rfl, rfl, Nat.le_refl _, fun _ _ _ => rfl⟩

end Go.Proofs.Ytphicjokogljcaa
