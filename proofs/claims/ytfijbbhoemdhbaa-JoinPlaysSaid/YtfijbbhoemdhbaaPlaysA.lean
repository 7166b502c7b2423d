/-
  A joint and the reference's, side by side.
-/
import Derived.Test.YtfijbbhoemdhbaaRefJ4
import Derived.Test.YtfijbbhoemdhbaaPlainJoin2
import Derived.Test.YtfijbbhoemdhbaaActs
namespace Go.Proofs.Ytfijbbhoemdhbaa
open Go.RowKit
set_option linter.unusedVariables false

structure Pair (w0 w : World) (g R T h : Nat) (A : Option Addr) (c : Nat) (s : JS) (A' : Option Addr) (c' : Nat) (N rm : Int) (got : List UInt8) (D : Option Addr) (d : Nat) (L : HB) : Prop where
  j : JIn w0.heap.size w0 w g R T A c s
  r : RJ w w0.heap.size h N rm A' c' got D d L
  ap : ∀ i, JF g R T A i → (Value.slice A' got.length c').ownBlock ≠ some i
section
variable {w0 w w' : World} {g R T h c c' d : Nat} {A A' D : Option Addr} {s : JS} {N rm : Int} {got : List UInt8} {L : HB}
theorem Pair.JR (p : Pair w0 w g R T h A c s A' c' N rm got D d L) : ∀ i, JF g R T A i → ¬ RF h D L.length d i := by
  intro i hj hr
  have key : ∀ (t : TypeId) (cs : Array Value) (fr : Nat × Nat), w.heap[i]? = some (.cells cs t fr) → t ≠ 51 → t ≠ 66 → False := by
    intro t cs fr hh h1 h2
    rcases hr with rfl | hr
    · have hb := p.r.blk
      unfold Blk at hb
      rw [hb] at hh
      injection hh with hh
      injection hh with _ h3
      exact h1 h3.symm
    · exact p.r.held.ne hh h2 hr
  rcases hj with rfl | rfl | rfl | ⟨a, rfl, rfl⟩
  · exact key _ _ _ p.j.at_.blk (by decide) (by decide)
  · exact key _ _ _ p.j.at_.ring (by decide) (by decide)
  · exact key _ _ _ p.j.at_.has (by decide) (by decide)
  · rcases p.j.at_.ready.2 with ⟨hv, _⟩ | ⟨g', cap, cur, hv, hb, hh, _⟩
    · injection hv with h1; cases h1
    · injection hv with h1
      injection h1 with h1
      subst h1
      exact key _ _ _ hh (by decide) (by decide)
theorem Pair.below (p : Pair w0 w g R T h A c s A' c' N rm got D d L) (hb : Below w.heap.size w w') : Pair w0 w' g R T h A c s A' c' N rm got D d L :=
  ⟨p.j.below hb, p.r.below hb, p.ap⟩
/-- Behind a call of the joint. -/
theorem Pair.joint {A2 : Option Addr} {c2 : Nat} {s2 : JS} (p : Pair w0 w g R T h A c s A' c' N rm got D d L) (hj : JIn w0.heap.size w0 w' g R T A2 c2 s2) (hf : Frame (JF g R T A) w w') (hn : ∀ i, JF g R T A2 i → JF g R T A i ∨ w.heap.size ≤ i) :
    Pair w0 w' g R T h A2 c2 s2 A' c' N rm got D d L := by
  have hh : ¬ JF g R T A h := fun e => p.JR h e (.inl rfl)
  refine ⟨hj, ⟨p.r.blk.keep (hf.block h p.r.lt hh), ?_, ?_, p.r.base⟩, ?_⟩
  · refine ⟨p.r.got.1, ?_⟩
    rcases p.r.got.2 with h2 | ⟨g', cap, cur, hv, hb, hx, q⟩
    · exact .inl h2
    · refine .inr ⟨g', cap, cur, hv, hb, ?_, q⟩
      rw [hf.block g' (Array.getElem?_eq_some_iff.1 hx).1 (fun e => p.ap g' e (by rw [hv]; simp [Value.ownBlock]))]
      exact hx
  · refine ⟨p.r.held.1, ?_⟩
    rcases p.r.held.2 with h2 | ⟨g', cap, cur, hv, hb, hx, q⟩
    · exact .inl h2
    · refine .inr ⟨g', cap, cur, hv, hb, ?_, q⟩
      rw [hf.block g' (Array.getElem?_eq_some_iff.1 hx).1 (fun e => p.JR g' e (.inr (by rw [hv]; simp [Value.ownBlock])))]
      exact hx
  · intro i hi
    rcases hn i hi with h1 | h1
    · exact p.ap i h1
    · intro e
      have := (ownBlock_lt p.r.got i e).2
      omega
/-- Behind a call of the reference. -/
theorem Pair.ref {A2 D2 : Option Addr} {c2 d2 : Nat} {N2 rm2 : Int} {got2 : List UInt8} {L2 : HB} (p : Pair w0 w g R T h A c s A' c' N rm got D d L) (hr : RJ w' w0.heap.size h N2 rm2 A2 c2 got2 D2 d2 L2) (hf : Frame (RF h D L.length d) w w')
    (hg : ∀ q, (Value.slice A2 got2.length c2).ownBlock = some q → (Value.slice A' got.length c').ownBlock = some q ∨ w.heap.size ≤ q) :
    Pair w0 w' g R T h A c s A2 c2 N2 rm2 got2 D2 d2 L2 := by
  refine ⟨⟨p.j.at_.keep (fun k hk hj => hf.block k hk (p.JR k hj)), hf.below p.j.bel (p.r.RFB) p.j.sz, p.j.big, Nat.le_trans p.j.sz hf.size⟩, hr, ?_⟩
  intro i hi e
  rcases hg i e with h1 | h1
  · exact p.ap i hi h1
  · have := p.j.at_.jf_lt i hi
    omega
end
theorem own_framed {B : Nat} {w w' : World} {F : Nat → Prop} {X : Option Addr} {x : Nat} {bs : List UInt8} (o : Own w B X x bs) (hf : Frame F w w') (hn : ∀ i, F i → i < B) : Own w' B X x bs := by
  refine ⟨o.1, ?_⟩
  rcases o.2 with h2 | ⟨g', cap, cur, hv, hb, hx, q⟩
  · exact .inl h2
  · refine .inr ⟨g', cap, cur, hv, hb, ?_, q⟩
    rw [hf.block g' (Array.getElem?_eq_some_iff.1 hx).1 (fun e => by have := hn g' e; omega)]
    exact hx
def ReadIn2 (B : Nat) (w0 : World) (g R T : Nat) (A : Option Addr) (s : JS) (m : Nat) (w : World) (e : Ending) (w' : World) : Prop :=
  ∃ A' c' D d, e = .returned (.tuple #[.slice D (s.ready.take m).length d, .int .i64 0]) ∧ JIn B w0 w' g R T A' c' (readS s m) ∧ Own w' w.heap.size D d (s.ready.take m) ∧ Frame (JF g R T A) w w' ∧ ∀ i, JF g R T A' i → JF g R T A i ∨ w.heap.size ≤ i
theorem read_in2 {B : Nat} {w0 w : World} {g R T : Nat} {A : Option Addr} {c : Nat} {s : JS} (h : JIn B w0 w g R T A c s) (n : Int) (hn : 0 ≤ n) :
    Calls Try.prog 12 #[.pointer (some ⟨g, 0, none⟩), .int .i64 n] w (ReadIn2 B w0 g R T A s (min n s.ready.length).toNat w) := by
  refine (jread_any h.at_ n hn).mono ?_
  rintro e w' ⟨A', c', D, d, rfl, hj, hs, hf, hn⟩
  exact ⟨A', c', D, d, rfl, h.frame hj hf hn, hs, hf, hn⟩
theorem Pair.rf_lt {w0 w : World} {g R T h c c' d : Nat} {A A' D : Option Addr} {s : JS} {N rm : Int} {got : List UInt8} {L : HB} (p : Pair w0 w g R T h A c s A' c' N rm got D d L) : ∀ i, RF h D L.length d i → i < w.heap.size := by
  rintro i (rfl | hi)
  · exact p.r.lt
  · exact (World.ownsRow.lt p.r.held i hi).2
theorem sl_zeros (n : Nat) (hn : n ≤ 70000) (w : World) : Sl (w.alloc (.cells (octets (List.replicate n 0)) 5)) (some ⟨w.heap.size, 0, none⟩) n (List.replicate n 0) :=
  ⟨bs_lit w _, by rw [List.length_replicate]; exact Nat.le_refl _, by omega, fun e => by cases e⟩
/-- A row of 65537 noughts. -/
theorem make_long : ∃ (CS : Array Value) (RP : List UInt8), (∀ W : World, (Instr.makeSlice 23 (.int .i64 65537) (.int .i64 65537)).run Try.prog W = .ok (.slice (some ⟨W.heap.size, 0, none⟩) 65537 65537) (W.alloc (.cells CS 5))) ∧ RP.length = 65537 ∧ ∀ w : World, Sl (w.alloc (.cells CS 5)) (some ⟨w.heap.size, 0, none⟩) 65537 RP :=
  ⟨_, _, fun W => make_u8 65537 (by omega) W, List.length_replicate, fun w => sl_zeros 65537 (by omega) w⟩
/-- Both of them hold the same. -/
structure TwoJ (w0 w : World) (g R T h room : Nat) : Prop where
  ex : ∃ A c s A' c' D d L, Pair w0 w g R T h A c s A' c' s.next room s.ready D d L ∧ Rel s L ∧ s.ring.length = room
theorem Rel.lenle {s : JS} {L : HB} (r : Rel s L) (i : Inv s) : L.length ≤ 65535 := by
  have := r.len
  have := held_le s i
  have := i.room
  omega
theorem ActAt.keep {w w' : World} {b off i : Nat} (h : ActAt w b off i) (hk : ∀ a v, w.cell? a = some v → w'.cell? a = some v) : ActAt w' b off i := by
  obtain ⟨d, n, t, A, c, bs, h0, h1, h2, h3, hs, r⟩ := h
  exact ⟨d, n, t, A, c, bs, hk _ _ h0, hk _ _ h1, hk _ _ h2, hk _ _ h3, hs.keep hk, r⟩
/-- What both calls of Add come to. -/
theorem plays_add {s : JS} {L : HB} (r : Rel s L) (i : Inv s) (f : Int) (f0 : 0 ≤ f) (f1 : f < 4294967296) (bs : List UInt8) (hb : bs.length ≤ 65536) (k : Nat) (t1 : ∀ j, j < k → now (runS j (addS s f bs)) = true) (t2 : now (runS k (addS s f bs)) = false) :
    let L' := raddN s.next f (window s) L 0 bs
    (∀ j, j < k → (hlook j L').isSome = true) ∧ hlook k L' = none ∧ k ≤ window s ∧ (∀ x ∈ L', x.1 ≤ 65535) ∧ Rel (runS k (addS s f bs)) (rdrop k L') ∧ (runS k (addS s f bs)).next = addw s.next k ∧ (runS k (addS s f bs)).ready = s.ready ++ rtake L' k ∧ (runS k (addS s f bs)).ring.length = s.ring.length := by
  intro L'
  obtain ⟨ra, ia⟩ := add_rel r i f f0 f1 bs hb
  have hring := addS_ring s f bs
  have hnext : (addS s f bs).next = s.next := by unfold addS; exact (holdN_ready _ _ _).2
  have hready : (addS s f bs).ready = s.ready := by unfold addS; exact (holdN_ready _ _ _).1
  have hwin : window (addS s f bs) = window s := by unfold window; rw [hring, hready]
  refine ⟨fun j hj => ?_, ?_, ?_, ?_, (run_rel k ra ia t1).1, ?_, ?_, ?_⟩
  · rw [run_look ra ia j (fun q hq => t1 q (by omega)), if_pos (t1 j hj)]; rfl
  · rw [run_look ra ia k t1, if_neg (by rw [t2]; simp)]
  · have := runS_window ra ia k t1; rw [hwin] at this; exact this
  · intro x hx
    have h1 := ra.lt x hx
    have h2 := ia.room
    omega
  · rw [runS_next _ (by rw [hnext]; exact i.n0) (by rw [hnext]; exact i.n1), hnext]
  · rw [runS_take ra ia k t1, hready]
  · rw [runS_ring, hring]
end Go.Proofs.Ytfijbbhoemdhbaa
