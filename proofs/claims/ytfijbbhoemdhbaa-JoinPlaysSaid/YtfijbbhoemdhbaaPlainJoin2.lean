/-
  The plain mathematics of joints, on: ready and held ones are no more than the room; what lies outside the window changes nothing.
-/
import Derived.Test.YtfijbbhoemdhbaaJoinWorks
namespace Go.Proofs.Ytfijbbhoemdhbaa

theorem getD_rot (l : List Bool) (f o : Nat) (hf : f < l.length) (ho : o < l.length) : (l.drop f ++ l.take f).getD o false = l.getD ((f + o) % l.length) false := by
  rw [List.getD_eq_getElem?_getD, List.getD_eq_getElem?_getD]
  congr 1
  by_cases h : o < l.length - f
  · rw [List.getElem?_append_left (by rw [List.length_drop]; exact h), List.getElem?_drop, Nat.mod_eq_of_lt (by omega)]
  · rw [List.getElem?_append_right (by rw [List.length_drop]; omega), List.length_drop, List.getElem?_take_of_lt (by omega), Nat.mod_eq_sub_mod (by omega), Nat.mod_eq_of_lt (by omega)]
    congr 1
    omega
theorem count_le_of (l : List Bool) (m : Nat) (h : ∀ o, m ≤ o → o < l.length → l.getD o false = false) : l.count true ≤ m := by
  have e : l = l.take m ++ l.drop m := (List.take_append_drop m l).symm
  rw [e, List.count_append]
  have h1 : (l.take m).count true ≤ m := Nat.le_trans List.count_le_length (by rw [List.length_take]; omega)
  have h2 : (l.drop m).count true = 0 := by
    rw [List.count_eq_zero]
    intro hm
    obtain ⟨i, hi, he⟩ := List.mem_iff_getElem.1 hm
    rw [List.length_drop] at hi
    have := h (m + i) (by omega) (by omega)
    rw [List.getElem_drop] at he
    simp [List.getD_eq_getElem?_getD, List.getElem?_eq_getElem (show m + i < l.length by omega), he] at this
  omega
theorem room_le (s : JS) (h : Inv s) : (s.ready.length : Int) + s.held ≤ s.ring.length := by
  have hf := h.first
  have hl := h.len
  have hc : s.has.count true = (s.has.drop s.first ++ s.has.take s.first).count true := by
    rw [List.count_append, Nat.add_comm, ← List.count_append, List.take_append_drop]
  have hk : (s.has.drop s.first ++ s.has.take s.first).count true ≤ window s := by
    apply count_le_of
    intro o h1 h2
    have h2' : o < s.has.length := by simp at h2; omega
    rw [getD_rot _ _ _ (by omega) h2']
    have := h.out o h1 (by omega)
    unfold at_ at this
    have e : plc s o = (s.first + o) % s.has.length := by unfold plc; rw [hl]
    rw [e] at this
    by_cases hh : s.has.getD ((s.first + o) % s.has.length) false = true
    · rw [if_pos hh] at this; cases this
    · simpa using hh
  have := h.few
  rw [h.held, hc]
  unfold window at hk
  omega

theorem holdN_ring : ∀ (l : List UInt8) (s : JS) (o : Nat), (holdN s o l).ring.length = s.ring.length
  | [], _, _ => rfl
  | x :: r, s, o => by
    show (holdN (holdS s o x) (o + 1) r).ring.length = _
    rw [holdN_ring r, (hold_ring s o x).1]
theorem addS_ring (s : JS) (f : Int) (bs : List UInt8) : (addS s f bs).ring.length = s.ring.length := holdN_ring _ _ _
theorem runS_ring : ∀ (k : Nat) (s : JS), (runS k s).ring.length = s.ring.length
  | 0, _ => rfl
  | k + 1, s => by rw [runS, runS_ring k]; rfl

theorem add_outside (s : JS) (h : Inv s) (bs : List UInt8) (hb : bs.length ≤ 65536) : addS s ((s.next + window s) % 4294967296) bs = s := by
  have h0 := h.n0
  have h1 := h.n1
  have h2 := h.room
  have hw : window s ≤ 65535 := by unfold window; omega
  have e : leftN s ((s.next + window s) % 4294967296) bs.length = 0 := by
    unfold leftN
    have hm : may (window s) bs.length = true := by unfold may; simp; omega
    have hl : trimLeft s.next (window s) ((s.next + window s) % 4294967296) bs.length = leftAt s.next (window s) ((s.next + window s) % 4294967296) bs.length (window s) := by simp [trimLeft, hm]
    have hll : leftAt s.next (window s) ((s.next + window s) % 4294967296) bs.length (window s) = if way s.next ((s.next + window s) % 4294967296) < window s then min (bs.length : Int) (max 0 ((window s : Int) - way s.next ((s.next + window s) % 4294967296))) else min (max 0 ((bs.length : Int) - way ((s.next + window s) % 4294967296) s.next)) (window s) := rfl
    have e1 : way s.next ((s.next + window s) % 4294967296) = window s := by unfold way; omega
    have e2 : way ((s.next + window s) % 4294967296) s.next = (4294967296 - (window s : Int)) % 4294967296 := by unfold way; omega
    rw [hl, hll, e1, e2]
    rw [if_neg (by omega)]
    omega
  unfold addS
  rw [e, List.take_zero]
  rfl
theorem now_zero {s : JS} {k : Nat} (h : now s = false) (h1 : ∀ i, i < k → now (runS i s) = true) : k = 0 := by
  rcases Nat.eq_zero_or_pos k with h2 | h2
  · exact h2
  · have := h1 0 h2
    rw [show runS 0 s = s from rfl, h] at this
    cases this
end Go.Proofs.Ytfijbbhoemdhbaa
