/-
  A joint in memory; the walks of join.New, is, place, Next, Window, Ready, Held.
-/
import Derived.Test.YtfijbbhoemdhbaaBytes
import Derived.Test.YtfijbbhoemdhbaaPlainJoin
import Derived.Deep.QuietTactic
import Derived.BigQuiet
import Derived.RegionTactic
import Derived.BigRegion
import Derived.Laws.MakeOwn
namespace Go.Proofs.Ytfijbbhoemdhbaa
open Go.RowKit

/-- A block that is known whole. -/
def Blk (w : World) (g : Nat) (t : TypeId) (cs : Array Value) : Prop := w.heap[g]? = some (.cells cs t (0, 0))
theorem Blk.lt {w : World} {g : Nat} {t : TypeId} {cs : Array Value} (h : Blk w g t cs) : g < w.heap.size := (Array.getElem?_eq_some_iff.1 h).1
theorem Blk.cell {w : World} {g : Nat} {t : TypeId} {cs : Array Value} (h : Blk w g t cs) (i : Nat) : w.cell? ⟨g, i, none⟩ = cs[i]? := cell_of_row w g i cs t (0, 0) h
theorem Blk.free {w : World} {g : Nat} {t : TypeId} {cs : Array Value} (h : Blk w g t cs) (i : Nat) : w.frozen? ⟨g, i, none⟩ = false := by
  unfold Blk at h
  simp [World.frozen?, h]
theorem Blk.set {w : World} {g : Nat} {t : TypeId} {cs : Array Value} (h : Blk w g t cs) (i : Nat) (u : Value) : Blk (w.setCell ⟨g, i, none⟩ u) g t (cs.setIfInBounds i u) := by
  unfold Blk at h ⊢
  simp [World.setCell, Array.getElem?_modify, h]
theorem Blk.far {w : World} {g : Nat} {t : TypeId} {cs : Array Value} (h : Blk w g t cs) {p : Addr} (hp : g ≠ p.block) (u : Value) : Blk (w.setCell p u) g t cs := (Below.heap_setCell w p u g hp).trans h
theorem Blk.keep {w w' : World} {g : Nat} {t : TypeId} {cs : Array Value} (h : Blk w g t cs) (hk : w'.heap[g]? = w.heap[g]?) : Blk w' g t cs := hk.trans h
theorem Blk.ne {w : World} {g g' : Nat} {t t' : TypeId} {cs cs' : Array Value} (h : Blk w g t cs) (h' : Blk w g' t' cs') (hne : t ≠ t') : g ≠ g' := by
  rintro rfl
  unfold Blk at h h'
  rw [h] at h'
  injection h' with h'
  injection h' with _ ht
  exact hne ht

/-- What was there is as it was, but for the blocks of F. -/
structure Frame (F : Nat → Prop) (w w' : World) : Prop where
  os : w'.os = w.os
  tape : w'.tape = w.tape
  output : w'.output = w.output
  size : w.heap.size ≤ w'.heap.size
  block : ∀ k, k < w.heap.size → ¬ F k → w'.heap[k]? = w.heap[k]?
theorem Frame.refl (F : Nat → Prop) (w : World) : Frame F w w := ⟨rfl, rfl, rfl, Nat.le_refl _, fun _ _ _ => rfl⟩
theorem Frame.trans {F G : Nat → Prop} {a b c : World} (h : Frame F a b) (k : Frame G b c) (hG : ∀ i, G i → F i ∨ a.heap.size ≤ i) : Frame F a c :=
  ⟨k.os.trans h.os, k.tape.trans h.tape, k.output.trans h.output, Nat.le_trans h.size k.size, fun i hi hF => (k.block i (Nat.lt_of_lt_of_le hi h.size) (fun hg => by
    rcases hG i hg with h1 | h1
    · exact hF h1
    · omega)).trans (h.block i hi hF)⟩
theorem Frame.drewN {F : Nat → Prop} {a w : World} (h : Frame F a w) (n : Nat) : Frame F a (w.drewN n) := ⟨h.os, h.tape, h.output, h.size, h.block⟩
theorem Frame.drawn {F : Nat → Prop} {a w w' : World} (h : Frame F a w) (hd : Drawn w w') : Frame F a w' := by
  obtain ⟨n, rfl⟩ := hd
  exact h.drewN n
theorem Frame.set {F : Nat → Prop} {a w : World} (h : Frame F a w) {p : Addr} (hp : F p.block) (u : Value) : Frame F a (w.setCell p u) :=
  ⟨h.os, h.tape, h.output, by simpa [World.setCell] using h.size, fun i hi hF => (Below.heap_setCell w p u i (fun e => hF (e ▸ hp))).trans (h.block i hi hF)⟩
theorem Frame.below {F : Nat → Prop} {B : Nat} {a w w' : World} (hb : Below B a w) (h : Frame F w w') (hF : ∀ i, F i → B ≤ i) (hB : B ≤ w.heap.size) : Below B a w' :=
  hb.trans ⟨h.os, h.tape, h.output, h.size, fun k hk => h.block k (by omega) (fun hf => by have := hF k hf; omega)⟩
theorem Frame.of_below {F : Nat → Prop} {w w' : World} (h : Below w.heap.size w w') : Frame F w w' := ⟨h.os, h.tape, h.output, h.size, fun k hk _ => h.block k hk⟩
theorem Frame.mono {F G : Nat → Prop} {w w' : World} (h : Frame F w w') (hG : ∀ i, F i → G i) : Frame G w w' := ⟨h.os, h.tape, h.output, h.size, fun k hk hg => h.block k hk (fun hf => hg (hG k hf))⟩
theorem Frame.grown {F : Nat → Prop} {a w w' : World} {row : Option Nat} (h : Frame F a w) (hg : w.grownBy w' row) (hr : ∀ k, row = some k → F k ∨ a.heap.size ≤ k) : Frame F a w' :=
  ⟨hg.os.trans h.os, hg.tape.trans h.tape, hg.output.trans h.output, Nat.le_trans h.size hg.size, fun i hi hF => (hg.block i (Nat.lt_of_lt_of_le hi h.size) (fun e => by
    rcases hr i e.symm with h1 | h1
    · exact hF h1
    · omega)).trans (h.block i hi hF)⟩
theorem Frame.alloc {F : Nat → Prop} {a w : World} (h : Frame F a w) (o : Obj) : Frame F a (w.alloc o) :=
  ⟨h.os, h.tape, h.output, Nat.le_trans h.size (by simp), fun i hi hF => (Below.heap_alloc w o i (Nat.lt_of_lt_of_le hi h.size)).trans (h.block i hi hF)⟩

def bools (l : List Bool) : Array Value := (l.map Value.bool).toArray
def octets (l : List UInt8) : Array Value := (l.map bval).toArray

/-- A joint at block g; its other blocks: R (the ring), T (what is held), that of what is ready. -/
structure JMem (w : World) (g R T : Nat) (A : Option Addr) (c : Nat) (s : JS) : Prop where
  blk : Blk w g 55 #[.int .u32 s.next, .int .i64 s.first, .slice (some ⟨R, 0, none⟩) s.ring.length s.ring.length, .slice (some ⟨T, 0, none⟩) s.ring.length s.ring.length, .int .i64 s.held, .slice A s.ready.length c]
  ring : Blk w R 5 (octets s.ring)
  has : Blk w T 4 (bools s.has)
  ready : Own w 0 A c s.ready
  apart : (Value.slice A s.ready.length c).ownBlock ≠ some R
structure JAt (w : World) (g R T : Nat) (A : Option Addr) (c : Nat) (s : JS) : Prop extends JMem w g R T A c s where
  inv : Inv s

/-- The blocks of a joint. -/
def JF (g R T : Nat) (A : Option Addr) : Nat → Prop := fun k => k = g ∨ k = R ∨ k = T ∨ ∃ a, A = some a ∧ a.block = k

section
variable {w w' : World} {g R T : Nat} {A : Option Addr} {c : Nat} {s : JS}
theorem JMem.c0 (h : JMem w g R T A c s) : w.cell? ⟨g, 0, none⟩ = some (.int .u32 s.next) := by rw [h.blk.cell]; rfl
theorem JMem.c1 (h : JMem w g R T A c s) : w.cell? ⟨g, 1, none⟩ = some (.int .i64 s.first) := by rw [h.blk.cell]; rfl
theorem JMem.c2 (h : JMem w g R T A c s) : w.cell? ⟨g, 2, none⟩ = some (.slice (some ⟨R, 0, none⟩) s.ring.length s.ring.length) := by rw [h.blk.cell]; rfl
theorem JMem.c3 (h : JMem w g R T A c s) : w.cell? ⟨g, 3, none⟩ = some (.slice (some ⟨T, 0, none⟩) s.ring.length s.ring.length) := by rw [h.blk.cell]; rfl
theorem JMem.c4 (h : JMem w g R T A c s) : w.cell? ⟨g, 4, none⟩ = some (.int .i64 s.held) := by rw [h.blk.cell]; rfl
theorem JMem.c5 (h : JMem w g R T A c s) : w.cell? ⟨g, 5, none⟩ = some (.slice A s.ready.length c) := by rw [h.blk.cell]; rfl
theorem JMem.cr (h : JMem w g R T A c s) (i : Nat) (hi : i < s.ring.length) : w.cell? ⟨R, i, none⟩ = some (.int .u8 ((s.ring.getD i 0).toNat : Int)) := by
  rw [h.ring.cell]
  simp [octets, bval, List.getD_eq_getElem?_getD, List.getElem?_eq_getElem hi]
theorem JAt.ch (h : JAt w g R T A c s) (i : Nat) (hi : i < s.ring.length) : w.cell? ⟨T, i, none⟩ = some (.bool (s.has.getD i false)) := by
  rw [h.has.cell]
  simp [bools, List.getD_eq_getElem?_getD, List.getElem?_eq_getElem (show i < s.has.length by rw [h.inv.len]; exact hi)]
theorem JMem.gR (h : JMem w g R T A c s) : g ≠ R := h.blk.ne h.ring (by decide)
theorem JMem.gT (h : JMem w g R T A c s) : g ≠ T := h.blk.ne h.has (by decide)
theorem JMem.RT (h : JMem w g R T A c s) : R ≠ T := h.ring.ne h.has (by decide)
theorem own_blk_ne {B k : Nat} {t : TypeId} {cs : Array Value} {bs : List UInt8} (h : Own w B A c bs) (hb : Blk w k t cs) (hne : 5 ≠ t) : (Value.slice A bs.length c).ownBlock ≠ some k := by
  rcases h.2 with ⟨hv, _⟩ | ⟨g', cap, cur, hv, _, hh, _⟩
  · rw [hv]; simp [Value.ownBlock]
  · rw [hv]
    intro he
    have : g' = k := by simpa [Value.ownBlock] using he
    subst this
    exact Blk.ne (t := 5) hh hb hne rfl
theorem JMem.Ag (h : JMem w g R T A c s) : (Value.slice A s.ready.length c).ownBlock ≠ some g := own_blk_ne h.ready h.blk (by decide)
theorem JMem.AT (h : JMem w g R T A c s) : (Value.slice A s.ready.length c).ownBlock ≠ some T := own_blk_ne h.ready h.has (by decide)
/-- A joint whose blocks are as they were. -/
theorem JMem.keep (h : JMem w g R T A c s) (hk : ∀ k, k < w.heap.size → JF g R T A k → w'.heap[k]? = w.heap[k]?) : JMem w' g R T A c s := by
  refine ⟨h.blk.keep (hk g h.blk.lt (.inl rfl)), h.ring.keep (hk R h.ring.lt (.inr (.inl rfl))), h.has.keep (hk T h.has.lt (.inr (.inr (.inl rfl)))), ?_, h.apart⟩
  refine ⟨h.ready.1, ?_⟩
  rcases h.ready.2 with h2 | ⟨g', cap, cur, hv, hb, hh, r⟩
  · exact .inl h2
  · refine .inr ⟨g', cap, cur, hv, hb, ?_, r⟩
    have hA : A = some ⟨g', 0, none⟩ := by injection hv
    rw [hk g' (Array.getElem?_eq_some_iff.1 hh).1 (.inr (.inr (.inr ⟨_, hA, rfl⟩)))]
    exact hh
theorem JMem.drewN (h : JMem w g R T A c s) (n : Nat) : JMem (w.drewN n) g R T A c s := h.keep (fun _ _ _ => rfl)
theorem JMem.drew (h : JMem w g R T A c s) : JMem w.drew g R T A c s := h.keep (fun _ _ _ => rfl)
theorem JMem.drawn (h : JMem w g R T A c s) (hd : Drawn w w') : JMem w' g R T A c s := by
  obtain ⟨n, rfl⟩ := hd
  exact h.drewN n
theorem JAt.keep (h : JAt w g R T A c s) (hk : ∀ k, k < w.heap.size → JF g R T A k → w'.heap[k]? = w.heap[k]?) : JAt w' g R T A c s := ⟨h.toJMem.keep hk, h.inv⟩
theorem JAt.drewN (h : JAt w g R T A c s) (n : Nat) : JAt (w.drewN n) g R T A c s := h.keep (fun _ _ _ => rfl)
theorem JAt.drawn (h : JAt w g R T A c s) (hd : Drawn w w') : JAt w' g R T A c s := by
  obtain ⟨n, rfl⟩ := hd
  exact h.drewN n
theorem JAt.below (h : JAt w g R T A c s) (hb : Below w.heap.size w w') : JAt w' g R T A c s := h.keep (fun k hk _ => hb.block k hk)
end

section
variable {w w' : World} {g R T : Nat} {A : Option Addr} {c : Nat} {s : JS}
theorem own_set_far {B : Nat} {w : World} {A : Option Addr} {c : Nat} {bs : List UInt8} (h : Own w B A c bs) {p : Addr} (hp : (Value.slice A bs.length c).ownBlock ≠ some p.block) (u : Value) : Own (w.setCell p u) B A c bs :=
  World.ownsRow.kept (row := some p.block) h ⟨rfl, rfl, rfl, by simp [World.setCell], fun k _ hk => Below.heap_setCell w p u k (fun e => hk (by rw [e]))⟩ (.inr hp)
theorem set_oct (l : List UInt8) (k : Nat) (b : UInt8) : (octets l).setIfInBounds k (.int .u8 (b.toNat : Int)) = octets (l.set k b) := by
  unfold octets
  rw [List.map_set]
  simp [bval]
theorem set_bools (l : List Bool) (k : Nat) (b : Bool) : (bools l).setIfInBounds k (.bool b) = bools (l.set k b) := by
  unfold bools
  rw [List.map_set]
  simp
theorem JMem.setG (h : JMem w g R T A c s) (i : Nat) (u : Value) {s' : JS} (hr : s'.ring = s.ring) (hh : s'.has = s.has) (hd : s'.ready = s.ready)
    (hb : (#[Value.int .u32 s.next, .int .i64 s.first, .slice (some ⟨R, 0, none⟩) s.ring.length s.ring.length, .slice (some ⟨T, 0, none⟩) s.ring.length s.ring.length, .int .i64 s.held, .slice A s.ready.length c] : Array Value).setIfInBounds i u =
      #[Value.int .u32 s'.next, .int .i64 s'.first, .slice (some ⟨R, 0, none⟩) s.ring.length s.ring.length, .slice (some ⟨T, 0, none⟩) s.ring.length s.ring.length, .int .i64 s'.held, .slice A s.ready.length c]) :
    JMem (w.setCell ⟨g, i, none⟩ u) g R T A c s' := by
  refine ⟨?_, by rw [hr]; exact h.ring.far (p := ⟨g, i, none⟩) (fun e => h.gR e.symm) u, by rw [hh]; exact h.has.far (p := ⟨g, i, none⟩) (fun e => h.gT e.symm) u, by rw [hd]; exact own_set_far h.ready (p := ⟨g, i, none⟩) h.Ag u, by rw [hd]; exact h.apart⟩
  rw [hr, hd, ← hb]
  exact h.blk.set i u
theorem JMem.setNext (h : JMem w g R T A c s) (v : Int) : JMem (w.setCell ⟨g, 0, none⟩ (.int .u32 v)) g R T A c { s with next := v } := h.setG 0 _ rfl rfl rfl rfl
theorem JMem.setFirst (h : JMem w g R T A c s) (v : Nat) : JMem (w.setCell ⟨g, 1, none⟩ (.int .i64 v)) g R T A c { s with first := v } := h.setG 1 _ rfl rfl rfl rfl
theorem JMem.setHeld (h : JMem w g R T A c s) (v : Int) : JMem (w.setCell ⟨g, 4, none⟩ (.int .i64 v)) g R T A c { s with held := v } := h.setG 4 _ rfl rfl rfl rfl
theorem JMem.setHas (h : JMem w g R T A c s) (k : Nat) (b : Bool) : JMem (w.setCell ⟨T, k, none⟩ (.bool b)) g R T A c { s with has := s.has.set k b } :=
  ⟨h.blk.far (p := ⟨T, k, none⟩) h.gT _, h.ring.far (p := ⟨T, k, none⟩) h.RT _, by have := h.has.set k (.bool b); rw [set_bools] at this; exact this, own_set_far h.ready (p := ⟨T, k, none⟩) h.AT _, h.apart⟩
theorem JMem.setRing (h : JMem w g R T A c s) (k : Nat) (b : UInt8) : JMem (w.setCell ⟨R, k, none⟩ (.int .u8 (b.toNat : Int))) g R T A c { s with ring := s.ring.set k b } :=
  ⟨by have := h.blk.far (p := ⟨R, k, none⟩) h.gR (.int .u8 (b.toNat : Int)); simpa using this, by have := h.ring.set k (.int .u8 (b.toNat : Int)); rw [set_oct] at this; exact this, h.has.far (p := ⟨R, k, none⟩) (fun e => h.RT e.symm) _, own_set_far h.ready (p := ⟨R, k, none⟩) h.apart _, h.apart⟩
/-- What is ready is another slice of one's own. -/
theorem JMem.setReady (h : JMem w g R T A c s) {A' : Option Addr} {c' : Nat} {rd : List UInt8} (ho : Own w 0 A' c' rd) (hne : (Value.slice A' rd.length c').ownBlock ≠ some R) :
    JMem (w.setCell ⟨g, 5, none⟩ (.slice A' rd.length c')) g R T A' c' { s with ready := rd } := by
  refine ⟨?_, h.ring.far (p := ⟨g, 5, none⟩) (fun e => h.gR e.symm) _, h.has.far (p := ⟨g, 5, none⟩) (fun e => h.gT e.symm) _, own_set_far ho (p := ⟨g, 5, none⟩) (own_blk_ne ho h.blk (by decide)) _, hne⟩
  have := h.blk.set 5 (.slice A' rd.length c')
  simpa using this
end

theorem is_yes (g R n : Nat) (w : World) (h2 : w.cell? ⟨g, 2, none⟩ = some (.slice (some ⟨R, 0, none⟩) n n)) :
    Calls Try.prog 22 #[.pointer (some ⟨g, 0, none⟩)] w fun e w' => e = .returned (.bool true) ∧ w = w' := by
  go_enter Try.func22, Try.ntmps22
  go_wp2
  go_ret
  exact ⟨rfl, rfl⟩

section
variable {w : World} {g R T : Nat} {A : Option Addr} {c : Nat} {s : JS}
theorem next_any (h : JAt w g R T A c s) :
    Calls Try.prog 15 #[.pointer (some ⟨g, 0, none⟩)] w fun e w' => e = .returned (.int .u32 s.next) ∧ w = w' := by
  have h0 := h.c0
  have h2 := h.c2
  go_enter Try.func15, Try.ntmps15
  go_wp2_with fail
  refine (is_yes g R _ _ h2).mono ?_
  rintro e w' ⟨rfl, rfl⟩
  go_wp2_with fail
  go_ret
  exact ⟨rfl, rfl⟩
theorem ready_any (h : JAt w g R T A c s) :
    Calls Try.prog 13 #[.pointer (some ⟨g, 0, none⟩)] w fun e w' => e = .returned (.int .i64 s.ready.length) ∧ w = w' := by
  have h5 := h.c5
  have h2 := h.c2
  go_enter Try.func13, Try.ntmps13
  go_wp2_with fail
  refine (is_yes g R _ _ h2).mono ?_
  rintro e w' ⟨rfl, rfl⟩
  go_wp2_with fail
  go_ret
  exact ⟨rfl, rfl⟩
theorem held_any (h : JAt w g R T A c s) :
    Calls Try.prog 21 #[.pointer (some ⟨g, 0, none⟩)] w fun e w' => e = .returned (.int .i64 s.held) ∧ w = w' := by
  have h4 := h.c4
  have h2 := h.c2
  go_enter Try.func21, Try.ntmps21
  go_wp2_with fail
  refine (is_yes g R _ _ h2).mono ?_
  rintro e w' ⟨rfl, rfl⟩
  go_wp2_with fail
  go_ret
  exact ⟨rfl, rfl⟩
theorem window_any (h : JAt w g R T A c s) :
    Calls Try.prog 19 #[.pointer (some ⟨g, 0, none⟩)] w fun e w' => e = .returned (.int .i64 ((s.ring.length : Int) - s.ready.length)) ∧ Drawn w w' := by
  have h5 := h.c5
  have h2 := h.c2
  have b1 : s.ring.length ≤ 70000 := by have := h.inv.room; omega
  have b2 : s.ready.length ≤ 70000 := by have := h.inv.room; have := h.inv.few; omega
  go_enter Try.func19, Try.ntmps19
  go_wp2_with fail
  refine (is_yes g R _ _ h2).mono ?_
  rintro e w' ⟨rfl, rfl⟩
  go_wp2_with fail
  go_quiet (fail)
  go_wp2
  go_ret
  exact ⟨rfl, nq, rfl⟩
theorem place_mem (h : JMem w g R T A c s) (hfi : s.first < s.ring.length) (hro : s.ring.length ≤ 65535) (o : Nat) (ho : o ≤ 70000) :
    Calls Try.prog 33 #[.pointer (some ⟨g, 0, none⟩), .int .i64 o] w fun e w' => e = .returned (.int .i64 (plc s o)) ∧ Drawn w w' := by
  have h1 := h.c1
  have h2 := h.c2
  have b1 : s.ring.length ≤ 70000 := by omega
  have b2 : s.first < s.ring.length := hfi
  have z : ((s.ring.length : Int) == 0) = false := by rw [beq_eq_false_iff_ne]; omega
  go_enter Try.func33, Try.ntmps33
  go_wp2_with fail
  go_quiet (fail)
  go_wp2
  go_ret
  exact ⟨ret_int' (by simp [plc]), nq, rfl⟩
theorem place_any (h : JAt w g R T A c s) (o : Nat) (ho : o ≤ 70000) :
    Calls Try.prog 33 #[.pointer (some ⟨g, 0, none⟩), .int .i64 o] w fun e w' => e = .returned (.int .i64 (plc s o)) ∧ Drawn w w' :=
  place_mem h.toJMem h.inv.first h.inv.room o ho
end
end Go.Proofs.Ytfijbbhoemdhbaa
