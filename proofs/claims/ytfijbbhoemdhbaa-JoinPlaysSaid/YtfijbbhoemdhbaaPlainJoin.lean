/-
  The plain mathematics of joints: a ring of bytes that are held, what is ready. No program in sight.
-/
namespace Go.Proofs.Ytfijbbhoemdhbaa

/-- What a joint has. -/
structure JS where
  next : Int
  first : Nat
  ring : List UInt8
  has : List Bool
  held : Int
  ready : List UInt8

/-- Where a byte is in the ring. -/
def plc (s : JS) (o : Nat) : Nat := (s.first + o) % s.ring.length
/-- The byte that is held so far behind next. -/
def at_ (s : JS) (o : Nat) : Option UInt8 := if s.has.getD (plc s o) false = true then some (s.ring.getD (plc s o) 0) else none
def room (s : JS) : Nat := s.ring.length
def window (s : JS) : Nat := s.ring.length - s.ready.length

structure Inv (s : JS) : Prop where
  n0 : 0 ≤ s.next
  n1 : s.next < 4294967296
  first : s.first < s.ring.length
  len : s.has.length = s.ring.length
  room : s.ring.length ≤ 65535
  held : s.held = (s.has.count true : Nat)
  few : s.ready.length ≤ s.ring.length
  out : ∀ o, window s ≤ o → o < s.ring.length → at_ s o = none

theorem plc_eq (s : JS) (h : s.first < s.ring.length) (o : Nat) (ho : o < s.ring.length) : plc s o = if s.first + o < s.ring.length then s.first + o else s.first + o - s.ring.length := by
  unfold plc
  split
  · exact Nat.mod_eq_of_lt (by assumption)
  · rw [Nat.mod_eq_sub_mod (by omega)]
    exact Nat.mod_eq_of_lt (by omega)
theorem plc_lt' (s : JS) (h : s.first < s.ring.length) (o : Nat) : plc s o < s.ring.length := Nat.mod_lt _ (by omega)
theorem plc_inj (s : JS) (h : s.first < s.ring.length) (o o' : Nat) (ho : o < s.ring.length) (ho' : o' < s.ring.length) (e : plc s o = plc s o') : o = o' := by
  rw [plc_eq s h o ho, plc_eq s h o' ho'] at e
  split at e <;> split at e <;> omega

/-- A byte held at a place, if none is held there. -/
def holdS (s : JS) (o : Nat) (b : UInt8) : JS :=
  if s.has.getD (plc s o) false = true then s else { s with ring := s.ring.set (plc s o) b, has := s.has.set (plc s o) true, held := s.held + 1 }
/-- What is held at next, handed on. -/
def stepS (s : JS) : JS :=
  { next := (s.next + 1) % 4294967296, first := (s.first + 1) % s.ring.length, ring := s.ring, has := s.has.set s.first false, held := s.held - 1, ready := s.ready ++ [s.ring.getD s.first 0] }

theorem getD_set_same {α : Type} (l : List α) (i : Nat) (x d : α) (h : i < l.length) : (l.set i x).getD i d = x := by
  simp [List.getD_eq_getElem?_getD, h]
theorem getD_set_other {α : Type} (l : List α) (i j : Nat) (x d : α) (h : i ≠ j) : (l.set i x).getD j d = l.getD j d := by
  simp [List.getD_eq_getElem?_getD, List.getElem?_set_ne h]

theorem count_set_true : ∀ (l : List Bool) (i : Nat), i < l.length → l.getD i false = false → (l.set i true).count true = l.count true + 1
  | [], i, h, _ => by simp at h
  | b :: r, 0, _, hb => by
    simp at hb
    subst hb
    simp
  | b :: r, i + 1, h, hb => by
    have := count_set_true r i (by simpa using h) (by simpa using hb)
    rw [List.set_cons_succ, List.count_cons, List.count_cons, this]
    omega
theorem count_set_false : ∀ (l : List Bool) (i : Nat), i < l.length → l.getD i false = true → (l.set i false).count true + 1 = l.count true
  | [], i, h, _ => by simp at h
  | b :: r, 0, _, hb => by
    simp at hb
    subst hb
    simp
  | b :: r, i + 1, h, hb => by
    have := count_set_false r i (by simpa using h) (by simpa using hb)
    rw [List.set_cons_succ, List.count_cons, List.count_cons, ← this]
    omega

theorem hold_ring (s : JS) (o : Nat) (b : UInt8) : (holdS s o b).ring.length = s.ring.length ∧ (holdS s o b).first = s.first ∧ (holdS s o b).ready = s.ready ∧ (holdS s o b).next = s.next := by
  unfold holdS
  split <;> simp
theorem hold_plc (s : JS) (o o' : Nat) (b : UInt8) : plc (holdS s o b) o' = plc s o' := by
  unfold plc
  rw [(hold_ring s o b).1, (hold_ring s o b).2.1]
theorem hold_at (s : JS) (hf : s.first < s.ring.length) (hl : s.has.length = s.ring.length) (o o' : Nat) (ho : o < s.ring.length) (ho' : o' < s.ring.length) (b : UInt8) :
    at_ (holdS s o b) o' = if o' = o then some ((at_ s o).getD b) else at_ s o' := by
  have hp := plc_lt' s hf o
  unfold at_
  rw [hold_plc]
  by_cases h : s.has.getD (plc s o) false = true
  · have e : holdS s o b = s := by rw [holdS, if_pos h]
    rw [e]
    by_cases e' : o' = o
    · subst e'; rw [if_pos rfl, if_pos h]; rfl
    · rw [if_neg e']
  · have e : holdS s o b = { s with ring := s.ring.set (plc s o) b, has := s.has.set (plc s o) true, held := s.held + 1 } := by rw [holdS, if_neg h]
    rw [e]
    by_cases e' : o' = o
    · subst e'
      simp only [if_true]
      rw [getD_set_same _ _ _ _ (by rw [hl]; exact hp), getD_set_same _ _ _ _ hp, if_neg h, if_pos rfl]
      rfl
    · have hne : plc s o ≠ plc s o' := fun he => e' (plc_inj s hf o o' ho ho' he).symm
      simp only [e', if_false]
      rw [getD_set_other _ _ _ _ _ hne, getD_set_other _ _ _ _ _ hne]

theorem hold_inv (s : JS) (h : Inv s) (o : Nat) (ho : o < window s) (b : UInt8) : Inv (holdS s o b) := by
  have hw : window (holdS s o b) = window s := by unfold window; rw [(hold_ring s o b).1, (hold_ring s o b).2.2.1]
  obtain ⟨r1, r2, r3, r4⟩ := hold_ring s o b
  have hon : o < s.ring.length := by unfold window at ho; omega
  refine ⟨by rw [r4]; exact h.n0, by rw [r4]; exact h.n1, by rw [r2, r1]; exact h.first, ?_, by rw [r1]; exact h.room, ?_, by rw [r3, r1]; exact h.few, ?_⟩
  · unfold holdS
    split
    · exact h.len
    · simpa using h.len
  · unfold holdS
    split
    · exact h.held
    · rename_i hh
      show s.held + 1 = _
      rw [h.held, count_set_true _ _ (by rw [h.len]; exact plc_lt' s h.first o) (by simpa using hh)]
      omega
  · intro o' hw' ho'
    rw [hw] at hw'
    rw [r1] at ho'
    rw [hold_at s h.first h.len o o' hon ho', if_neg (by omega)]
    exact h.out o' hw' ho'

theorem step_plc (s : JS) (h : s.first < s.ring.length) (o : Nat) (ho : o < s.ring.length) : plc (stepS s) o = if o + 1 < s.ring.length then plc s (o + 1) else s.first := by
  show ((s.first + 1) % s.ring.length + o) % s.ring.length = _
  rw [Nat.mod_add_mod]
  split
  · unfold plc
    congr 1
    omega
  · rw [show s.first + 1 + o = s.first + s.ring.length by omega, Nat.add_mod_right, Nat.mod_eq_of_lt h]
theorem step_at (s : JS) (hf : s.first < s.ring.length) (hl : s.has.length = s.ring.length) (o : Nat) (ho : o < s.ring.length) :
    at_ (stepS s) o = if o + 1 < s.ring.length then at_ s (o + 1) else none := by
  have e1 : (stepS s).has = s.has.set s.first false := rfl
  have e2 : (stepS s).ring = s.ring := rfl
  unfold at_
  rw [step_plc s hf o ho, e1, e2]
  have p0 : plc s 0 = s.first := by unfold plc; rw [Nat.add_zero]; exact Nat.mod_eq_of_lt hf
  by_cases h : o + 1 < s.ring.length
  · simp only [h, if_true]
    have hne : s.first ≠ plc s (o + 1) := fun he => by
      have := plc_inj s hf 0 (o + 1) (by omega) h (by rw [p0]; exact he)
      omega
    rw [getD_set_other _ _ _ _ _ hne]
  · simp only [h, if_false]
    rw [getD_set_same _ _ _ _ (by rw [hl]; exact hf)]
    rfl
theorem step_window (s : JS) : window (stepS s) = s.ring.length - (s.ready.length + 1) := by
  show s.ring.length - (s.ready ++ [_]).length = _
  simp
theorem step_inv (s : JS) (h : Inv s) (hh : s.has.getD s.first false = true) : Inv (stepS s) ∧ s.ready.length < s.ring.length := by
  have p0 : plc s 0 = s.first := by unfold plc; rw [Nat.add_zero]; exact Nat.mod_eq_of_lt h.first
  have hf := h.first
  have hlt : s.ready.length < s.ring.length := by
    rcases Nat.lt_or_ge s.ready.length s.ring.length with h1 | h1
    · exact h1
    · have := h.out 0 (by unfold window; omega) (by omega)
      unfold at_ at this
      rw [p0, if_pos hh] at this
      cases this
  refine ⟨⟨?_, ?_, ?_, ?_, h.room, ?_, ?_, ?_⟩, hlt⟩
  · show 0 ≤ (s.next + 1) % 4294967296
    omega
  · show (s.next + 1) % 4294967296 < 4294967296
    omega
  · exact Nat.mod_lt _ (show 0 < s.ring.length by omega)
  · show (s.has.set s.first false).length = s.ring.length
    simpa using h.len
  · show s.held - 1 = _
    rw [h.held]
    have := count_set_false s.has s.first (by rw [h.len]; exact h.first) hh
    show ((s.has.count true : Nat) : Int) - 1 = (((s.has.set s.first false).count true : Nat) : Int)
    omega
  · show (s.ready ++ [_]).length ≤ s.ring.length
    simp
    omega
  · intro o ho hn
    have hn' : o < s.ring.length := hn
    rw [step_window] at ho
    rw [step_at s h.first h.len o hn']
    split
    · exact h.out (o + 1) (by unfold window; omega) (by assumption)
    · rfl
theorem held_le (s : JS) (h : Inv s) : 0 ≤ s.held ∧ s.held ≤ s.ring.length := by
  have := List.count_le_length (a := true) (l := s.has)
  rw [h.len] at this
  rw [h.held]
  omega

/-- What is handed on: as long as there is something at next. -/
def runS : Nat → JS → JS
  | 0, s => s
  | k + 1, s => runS k (stepS s)
theorem runS_succ : ∀ (k : Nat) (s : JS), runS (k + 1) s = stepS (runS k s)
  | 0, _ => rfl
  | k + 1, s => by rw [runS, runS_succ k (stepS s)]; rfl

theorem runS_ready (s : JS) : ∀ k, (runS k s).ready.length = s.ready.length + k
  | 0 => rfl
  | k + 1 => by
    rw [runS_succ]
    show ((runS k s).ready ++ [_]).length = _
    rw [List.length_append, runS_ready s k]
    rfl

/-- Read hands out the first ones of what is ready. -/
def readS (s : JS) (n : Nat) : JS := { s with ready := s.ready.drop n }
theorem read_inv (s : JS) (h : Inv s) (n : Nat) : Inv (readS s n) := by
  refine ⟨h.n0, h.n1, h.first, h.len, h.room, h.held, ?_, ?_⟩
  · show (s.ready.drop n).length ≤ s.ring.length
    rw [List.length_drop]
    have := h.few
    omega
  · intro o ho hn
    have hw : window s ≤ window (readS s n) := by
      show s.ring.length - s.ready.length ≤ s.ring.length - (s.ready.drop n).length
      rw [List.length_drop]
      omega
    exact h.out o (by omega) hn

end Go.Proofs.Ytfijbbhoemdhbaa
