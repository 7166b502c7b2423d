/-
  A joint of one's own, as the laws of joints use it; the walk of law12.works.
-/
import Derived.Test.YtfijbbhoemdhbaaJoinAdd
import Derived.Test.YtfijbbhoemdhbaaJoin5
import Derived.Test.YtfijbbhoemdhbaaSame
import Derived.Lib.SlBytesConst
namespace Go.Proofs.Ytfijbbhoemdhbaa
open Go.RowKit

theorem JMem.jf_lt {w : World} {g R T : Nat} {A : Option Addr} {c : Nat} {s : JS} (h : JMem w g R T A c s) : ∀ i, JF g R T A i → i < w.heap.size := by
  rintro i (rfl | rfl | rfl | ⟨a, rfl, rfl⟩)
  · exact h.blk.lt
  · exact h.ring.lt
  · exact h.has.lt
  · rcases h.ready.2 with ⟨hv, _⟩ | ⟨g', cap, cur, hv, hb, hh, r⟩
    · injection hv with h1; cases h1
    · injection hv with h1
      injection h1 with h1
      subst h1
      exact (Array.getElem?_eq_some_iff.1 hh).1

/-- A joint that was made behind the world w0: its blocks lie from B on. -/
structure JIn (B : Nat) (w0 w : World) (g R T : Nat) (A : Option Addr) (c : Nat) (s : JS) : Prop where
  at_ : JAt w g R T A c s
  bel : Below B w0 w
  big : ∀ i, JF g R T A i → B ≤ i
  sz : B ≤ w.heap.size

theorem JIn.alloc {B : Nat} {w0 w : World} {g R T : Nat} {A : Option Addr} {c : Nat} {s : JS} (h : JIn B w0 w g R T A c s) (o : Obj) : JIn B w0 (w.alloc o) g R T A c s :=
  ⟨h.at_.below ((Below.refl _ _).alloc (Nat.le_refl _) _), h.bel.alloc h.sz o, h.big, by have := h.sz; simp; omega⟩
theorem JIn.below {B : Nat} {w0 w w' : World} {g R T : Nat} {A : Option Addr} {c : Nat} {s : JS} (h : JIn B w0 w g R T A c s) (hb : Below w.heap.size w w') : JIn B w0 w' g R T A c s :=
  ⟨h.at_.below hb, h.bel.trans (hb.mono h.sz), h.big, Nat.le_trans h.sz hb.size⟩
theorem JIn.frame {B : Nat} {w0 w w' : World} {g R T : Nat} {A A' : Option Addr} {c c' : Nat} {s s' : JS} (h : JIn B w0 w g R T A c s) (hj : JAt w' g R T A' c' s') (hf : Frame (JF g R T A) w w')
    (hn : ∀ i, JF g R T A' i → JF g R T A i ∨ w.heap.size ≤ i) : JIn B w0 w' g R T A' c' s' :=
  ⟨hj, hf.below h.bel h.big h.sz, fun i hi => by
    rcases hn i hi with h1 | h1
    · exact h.big i h1
    · exact Nat.le_trans h.sz h1, Nat.le_trans h.sz hf.size⟩
theorem JIn.of_new {w w' : World} {B : Nat} {w0 : World} {g R T : Nat} {s : JS} (h0 : Below B w0 w) (hB : B ≤ w.heap.size) (hj : JAt w' g R T none 0 s) (hb : Below w.heap.size w w') (h1 : w.heap.size ≤ g) (h2 : w.heap.size ≤ R) (h3 : w.heap.size ≤ T) : JIn B w0 w' g R T none 0 s :=
  ⟨hj, h0.trans (hb.mono hB), (by
    rintro i (rfl | rfl | rfl | ⟨a, ha, _⟩)
    · omega
    · omega
    · omega
    · cases ha), Nat.le_trans hB hb.size⟩

/-- Whether there is something at next. -/
def now (s : JS) : Bool := s.has.getD s.first false
theorem run_one {s : JS} {k m : Nat} (h1 : ∀ i, i < k → now (runS i s) = true) (h2 : now (runS k s) = false) (g1 : ∀ i, i < m → now (runS i s) = true) (g2 : now (runS m s) = false) : k = m := by
  rcases Nat.lt_trichotomy k m with h | h | h
  · rw [g1 k h] at h2; cases h2
  · exact h
  · rw [h1 m h] at g2; cases g2

/-- What Add leaves. -/
def AddIn (B : Nat) (w0 : World) (g R T : Nat) (A : Option Addr) (s : JS) (w : World) (e : Ending) (w' : World) : Prop :=
  ∃ k A' c', e = .returned (.tuple #[.int .i64 (k : Nat), .int .i64 0]) ∧ JIn B w0 w' g R T A' c' (runS k s) ∧ Frame (JF g R T A) w w' ∧ (∀ i, JF g R T A' i → JF g R T A i ∨ w.heap.size ≤ i) ∧ (∀ i, i < k → now (runS i s) = true) ∧ now (runS k s) = false
theorem add_in {B : Nat} {w0 w : World} {g R T : Nat} {A : Option Addr} {c : Nat} {s : JS} (h : JIn B w0 w g R T A c s) (f : Int) (f0 : 0 ≤ f) (f1 : f < 4294967296) (D : Option Addr) (bs : List UInt8) (n d : Nat) (hn : bs.length = n) (hB : Bs w D bs) (hap : ∀ a, D = some a → 0 < bs.length → ¬ JF g R T A a.block) (hl : bs.length ≤ 65536) :
    Calls Try.prog 10 #[.pointer (some ⟨g, 0, none⟩), .int .u32 f, .slice D n d] w (AddIn B w0 g R T A (addS s f bs) w) := by
  subst hn
  refine (jadd_any h.at_ f f0 f1 D bs d hB hap hl).mono ?_
  rintro e w' ⟨k, rfl, ⟨A', c', hj, hf, hn, ht⟩, he⟩
  exact ⟨k, A', c', rfl, h.frame hj hf hn, hf, hn, ht, he⟩
def ReadIn (B : Nat) (w0 : World) (g R T : Nat) (A : Option Addr) (s : JS) (m : Nat) (w : World) (e : Ending) (w' : World) : Prop :=
  ∃ A' c' D d, e = .returned (.tuple #[.slice D (s.ready.take m).length d, .int .i64 0]) ∧ JIn B w0 w' g R T A' c' (readS s m) ∧ Sl w' D d (s.ready.take m) ∧ Frame (JF g R T A) w w' ∧ ∀ i, JF g R T A' i → JF g R T A i ∨ w.heap.size ≤ i
theorem read_in {B : Nat} {w0 w : World} {g R T : Nat} {A : Option Addr} {c : Nat} {s : JS} (h : JIn B w0 w g R T A c s) (n : Int) (hn : 0 ≤ n) :
    Calls Try.prog 12 #[.pointer (some ⟨g, 0, none⟩), .int .i64 n] w (ReadIn B w0 g R T A s (min n s.ready.length).toNat w) := by
  refine (jread_any h.at_ n hn).mono ?_
  rintro e w' ⟨A', c', D, d, rfl, hj, hs, hf, hn⟩
  exact ⟨A', c', D, d, rfl, h.frame hj hf hn, hs.sl, hf, hn⟩

theorem bs_lit_m (w : World) (bs : List UInt8) (m : Nat × Nat) : Bs (w.alloc (.cells (bs.map bval).toArray 5 m)) (some ⟨w.heap.size, 0, none⟩) bs := by
  refine .inr ⟨_, _, rfl, fun i hi => ?_⟩
  rw [Nat.zero_add, cell_of_row _ _ i (bs.map bval).toArray _ m (heap_alloc_new w _)]
  simp [bval, List.getD_eq_getElem?_getD, List.getElem?_eq_getElem hi]
theorem JIn.apart {B : Nat} {w0 w : World} {g R T : Nat} {A : Option Addr} {c : Nat} {s : JS} (h : JIn B w0 w g R T A c s) (n : Nat) : ∀ a, some (⟨w.heap.size, 0, none⟩ : Addr) = some a → 0 < n → ¬ JF g R T A a.block := by
  intro a ha _ hf
  injection ha with ha
  subst ha
  have := h.at_.jf_lt _ hf
  simp at this

def ws1 : JS := ⟨10, 0, [0, 0, 99, 0, 0], [false, false, true, false, false], 1, []⟩
def ws2 : JS := ⟨10, 0, [97, 98, 99, 0, 0], [true, true, true, false, false], 3, []⟩
def ws3 : JS := ⟨13, 3, [97, 98, 99, 0, 0], [false, false, false, false, false], 0, [97, 98, 99]⟩
theorem ws1_eq : addS (newS 10 5) 12 [99] = ws1 := by kernel_rfl
theorem ws2_eq : addS ws1 10 [97, 98] = ws2 := by kernel_rfl
theorem ws3_eq : runS 3 ws2 = ws3 := by kernel_rfl

set_option maxHeartbeats 1000000 in
set_option maxRecDepth 100000 in
theorem works_any (w : World) : Calls Try.prog 7 #[] w fun e w' => e = .returned (.bool true) ∧ Below w.heap.size w w' := by
  have kc := fun (w : World) (C : Array Value) (n c : Nat) => Lib.run_convert_bytes_const (P := Try.prog) w 23 5 C n c Try.underlying23 Try.underlying5
  go_enter Try.func7, Try.ntmps7
  go_wp2_with fail
  refine (jnew_any 10 5 _ (by omega) (by omega) (by omega) (by omega)).mono ?_
  rintro e w1 ⟨g, R, T, rfl, hj, hb, h1, h2, h3⟩
  have hi := JIn.of_new (Below.refl w.heap.size w) (Nat.le_refl _) hj hb h1 h2 h3
  clear hj hb h1 h2 h3
  go_wp2_with fail
  refine (add_in (hi.alloc _) 12 (by omega) (by omega) _ [99] 1 _ rfl (bs_lit_m w1 [99] _) (hi.apart _) (by decide)).mono ?_
  rintro e w2 ⟨k, A', c', rfl, hi2, _, _, t1, t2⟩
  rw [ws1_eq] at hi2 t1 t2
  obtain rfl := run_one (m := 0) t1 t2 (by simp) (by kernel_rfl)
  clear t1 t2 hi
  go_wp2_with fail
  refine (add_in (hi2.alloc _) 10 (by omega) (by omega) _ [97, 98] 2 _ rfl (bs_lit_m w2 [97, 98] _) (hi2.apart _) (by decide)).mono ?_
  rintro e w3 ⟨k, A2, c2, rfl, hi3, _, _, t1, t2⟩
  have e2 : addS (runS 0 ws1) 10 [97, 98] = ws2 := ws2_eq
  rw [e2] at hi3 t1 t2
  obtain rfl := run_one (m := 3) t1 t2 (by decide +kernel) (by kernel_rfl)
  rw [ws3_eq] at hi3
  clear t1 t2 hi2 e2
  go_wp2_with fail
  refine (read_in hi3 9 (by omega)).mono ?_
  rintro e w4 ⟨A3, c3, D, d, rfl, hi4, hs, _, _⟩
  have e3 : ws3.ready.take (min (9 : Int) ws3.ready.length).toNat = [97, 98, 99] := by kernel_rfl
  rw [e3] at hs
  rw [e3]
  have hstr : (convert 23 9 (.slice D 3 d)).run Try.prog w4 = .ok (.string ⟨#[97, 98, 99]⟩) w4 := hs.1.str d
  go_wp2_with fail
  refine (next_any hi4.at_).mono ?_
  rintro e w5 ⟨rfl, rfl⟩
  have e4 : (readS ws3 (min (9 : Int) ws3.ready.length).toNat).next = 13 := rfl
  rw [e4]
  go_wp2_with fail
  go_ret
  exact ⟨rfl, hi4.bel⟩
end Go.Proofs.Ytfijbbhoemdhbaa
