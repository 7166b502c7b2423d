/-
  The plain mathematics of joints, on: pieces of one stream.
-/
import Derived.Test.YtfijbbhoemdhbaaPlainJoin2
namespace Go.Proofs.Ytfijbbhoemdhbaa

/-- What is held are bytes of the stream st, where next stands at its byte q. -/
def HeldOf (s : JS) (st : List UInt8) (q : Nat) : Prop := ∀ o, o < s.ring.length → ∀ b, at_ s o = some b → q + o < st.length ∧ b = st.getD (q + o) 0
/-- .. and p bytes of it were read; what is ready is what follows. -/
structure Str (s : JS) (st : List UInt8) (N p : Nat) : Prop where
  inv : Inv s
  held : HeldOf s st (p + s.ready.length)
  le : p + s.ready.length ≤ st.length
  ready : s.ready = (st.drop p).take s.ready.length
  next : s.next = ((N + p + s.ready.length : Nat) : Int) % 4294967296

theorem hold_of {s : JS} {st : List UInt8} {q : Nat} (hf : s.first < s.ring.length) (hl : s.has.length = s.ring.length) (h : HeldOf s st q) (o : Nat) (ho : o < s.ring.length) (b : UInt8) (hq : q + o < st.length) (hb : b = st.getD (q + o) 0) : HeldOf (holdS s o b) st q := by
  intro o' ho' b' hb'
  rw [(hold_ring s o b).1] at ho'
  rw [hold_at s hf hl o o' ho ho'] at hb'
  split at hb'
  · rename_i e
    subst e
    injection hb' with hb'
    cases ha : at_ s o' with
    | none => rw [ha] at hb'; simp at hb'; rw [← hb']; exact ⟨hq, hb⟩
    | some x => rw [ha] at hb'; simp at hb'; rw [← hb']; exact h o' ho x ha
  · exact h o' ho' b' hb'
theorem holdN_of {st : List UInt8} {q : Nat} : ∀ (l : List UInt8) (s : JS) (o : Nat), Inv s → HeldOf s st q → o + l.length ≤ window s → (∀ i, i < l.length → q + o + i < st.length ∧ l.getD i 0 = st.getD (q + o + i) 0) →
    Inv (holdN s o l) ∧ HeldOf (holdN s o l) st q
  | [], s, o, hi, h, _, _ => ⟨hi, h⟩
  | x :: r, s, o, hi, h, hw, hx => by
    have h0 := hx 0 (by simp)
    have hwr : window s ≤ s.ring.length := by unfold window; omega
    simp only [List.length_cons] at hw
    have h1 := hold_inv s hi o (by omega) x
    have h2 := hold_of hi.first hi.len h o (by omega) x (by simpa using h0.1) (by simpa using h0.2)
    refine holdN_of r (holdS s o x) (o + 1) h1 h2 ?_ ?_
    · have e : window (holdS s o x) = window s := by unfold window; rw [(hold_ring s o x).1, (hold_ring s o x).2.2.1]
      omega
    · intro i hil
      have := hx (i + 1) (by simp; omega)
      simp only [List.getD_cons_succ] at this
      rw [show q + (o + 1) + i = q + o + (i + 1) by omega]
      exact this
theorem holdN_ready : ∀ (l : List UInt8) (s : JS) (o : Nat), (holdN s o l).ready = s.ready ∧ (holdN s o l).next = s.next
  | [], _, _ => ⟨rfl, rfl⟩
  | x :: r, s, o => by
    have h := holdN_ready r (holdS s o x) (o + 1)
    rw [(hold_ring s o x).2.2.1, (hold_ring s o x).2.2.2] at h
    exact h
theorem holdN_at0 : ∀ (l : List UInt8) (s : JS) (o : Nat), Inv s → o + l.length ≤ window s → 0 < o → at_ (holdN s o l) 0 = at_ s 0
  | [], _, _, _, _, _ => rfl
  | x :: r, s, o, hi, hw, ho => by
    have hwr : window s ≤ s.ring.length := by unfold window; omega
    simp only [List.length_cons] at hw
    have e : window (holdS s o x) = window s := by unfold window; rw [(hold_ring s o x).1, (hold_ring s o x).2.2.1]
    show at_ (holdN (holdS s o x) (o + 1) r) 0 = at_ s 0
    rw [holdN_at0 r (holdS s o x) (o + 1) (hold_inv s hi o (by omega) x) (by omega) (by omega), hold_at s hi.first hi.len o 0 (by omega) (by omega), if_neg (by omega)]
theorem holdN_now (l : List UInt8) (s : JS) (hi : Inv s) (hw : l.length ≤ window s) (hl : 0 < l.length) : ∃ b, at_ (holdN s 0 l) 0 = some b := by
  match l, hl with
  | x :: r, _ =>
    simp only [List.length_cons] at hw
    have hwr : window s ≤ s.ring.length := by unfold window; omega
    have e : window (holdS s 0 x) = window s := by unfold window; rw [(hold_ring s 0 x).1, (hold_ring s 0 x).2.2.1]
    refine ⟨(at_ s 0).getD x, ?_⟩
    · show at_ (holdN (holdS s 0 x) (0 + 1) r) 0 = _
      rw [holdN_at0 r (holdS s 0 x) (0 + 1) (hold_inv s hi 0 (by omega) x) (by omega) (by omega), hold_at s hi.first hi.len 0 0 (by omega) (by omega), if_pos rfl]

theorem add_str {s : JS} {st : List UInt8} {N p : Nat} (h : Str s st N p) (hst : st.length ≤ 300) (hro : s.ring.length ≤ 400) (a e : Nat) (hae : a ≤ e) (he : e ≤ st.length) :
    Str (addS s (((N : Int) + a) % 4294967296) ((st.take e).drop a)) st N p := by
  have hlen : ((st.take e).drop a).length = e - a := by rw [List.length_drop, List.length_take]; omega
  have hw : window s ≤ 400 := by unfold window; omega
  obtain ⟨f1, f2, f3, f4, f5⟩ := trim_fit s.next (((N : Int) + a) % 4294967296) (window s) (e - a) (by omega) (by omega) h.inv.n0 h.inv.n1 (by omega) (by omega)
  unfold addS behind cutN leftN
  rw [hlen]
  have hnx := h.next
  generalize trimCut s.next (window s) (((N : Int) + a) % 4294967296) (e - a : Nat) = C at *
  generalize trimLeft s.next (window s) (((N : Int) + a) % 4294967296) (e - a : Nat) = L at *
  obtain ⟨C, rfl⟩ := Int.eq_ofNat_of_zero_le f2
  obtain ⟨L, rfl⟩ := Int.eq_ofNat_of_zero_le f3
  simp only [Int.toNat_natCast]
  generalize hl : (((st.take e).drop a).drop C).take L = l
  have hll : l.length = L := by rw [← hl, List.length_take, List.length_drop, hlen]; omega
  rcases Nat.eq_zero_or_pos L with h0 | h0
  · have : l = [] := List.length_eq_zero_iff.1 (by omega)
    subst this
    exact h
  · have hfit := f5 (by omega)
    have hle := h.le
    have hway : way s.next (addw (((N : Int) + a) % 4294967296) C) = (a : Int) + C - ((p + s.ready.length : Nat) : Int) := by
      have b1 := way_bd s.next (addw (((N : Int) + a) % 4294967296) C)
      have : way s.next (addw (((N : Int) + a) % 4294967296) C) = ((a : Int) + C - ((p + s.ready.length : Nat) : Int)) % 4294967296 := by
        rw [hnx]
        unfold way addw
        omega
      omega
    have hb0 := way_bd s.next (addw (((N : Int) + a) % 4294967296) C)
    rw [hway] at hfit hb0 ⊢
    obtain ⟨o, ho⟩ := Int.eq_ofNat_of_zero_le hb0.1
    rw [ho, Int.toNat_natCast]
    have hN2 := holdN_of (st := st) (q := p + s.ready.length) l s o h.inv h.held (by omega) (fun i hi => ⟨by omega, by
      rw [← hl]
      rw [hll] at hi
      simp only [List.getD_eq_getElem?_getD]
      rw [List.getElem?_take_of_lt hi, List.getElem?_drop, List.getElem?_drop, List.getElem?_take_of_lt (by omega)]
      congr 2
      omega⟩)
    obtain ⟨r1, r2⟩ := holdN_ready l s o
    refine ⟨hN2.1, ?_, ?_, ?_, ?_⟩
    · rw [r1]; exact hN2.2
    · rw [r1]; exact h.le
    · rw [r1]; exact h.ready
    · rw [r1, r2]; exact h.next
theorem now_at (s : JS) (h : s.first < s.ring.length) : now s = true → at_ s 0 = some (s.ring.getD s.first 0) := by
  intro hn
  have p0 : plc s 0 = s.first := by unfold plc; rw [Nat.add_zero]; exact Nat.mod_eq_of_lt h
  unfold at_
  rw [p0]
  exact if_pos hn
theorem at_now (s : JS) (h : s.first < s.ring.length) {b : UInt8} (hb : at_ s 0 = some b) : now s = true := by
  have p0 : plc s 0 = s.first := by unfold plc; rw [Nat.add_zero]; exact Nat.mod_eq_of_lt h
  unfold at_ at hb
  rw [p0] at hb
  by_cases hh : s.has.getD s.first false = true
  · exact hh
  · rw [if_neg hh] at hb; cases hb
theorem step_str {s : JS} {st : List UInt8} {N p : Nat} (h : Str s st N p) (hn : now s = true) : Str (stepS s) st N p := by
  have hs := step_inv s h.inv hn
  have hf := h.inv.first
  have h0 := h.held 0 (by omega) _ (now_at s hf hn)
  have hrl : (stepS s).ready.length = s.ready.length + 1 := by show (s.ready ++ [_]).length = _; simp
  have hrg : (stepS s).ring.length = s.ring.length := rfl
  refine ⟨hs.1, ?_, ?_, ?_, ?_⟩
  · intro o ho b hb
    rw [hrg] at ho
    rw [step_at s hf h.inv.len o ho] at hb
    split at hb
    · have := h.held (o + 1) (by assumption) b hb
      rw [hrl, show p + (s.ready.length + 1) + o = p + s.ready.length + (o + 1) by omega]
      exact this
    · cases hb
  · rw [hrl]; omega
  · rw [hrl]
    show s.ready ++ [s.ring.getD s.first 0] = _
    rw [List.take_succ_eq_append_getElem (by rw [List.length_drop]; omega), ← h.ready]
    congr 2
    rw [h0.2, List.getElem_drop, Nat.add_zero]
    simp [List.getD_eq_getElem?_getD, List.getElem?_eq_getElem (show p + s.ready.length < st.length by omega)]
  · show (s.next + 1) % 4294967296 = _
    rw [hrl, h.next]
    omega
theorem run_str {st : List UInt8} {N p : Nat} : ∀ (k : Nat) (s : JS), Str s st N p → (∀ i, i < k → now (runS i s) = true) → Str (runS k s) st N p
  | 0, _, h, _ => h
  | k + 1, s, h, hn => by
    rw [runS_succ]
    exact step_str (run_str k s h (fun i hi => hn i (by omega))) (hn k (by omega))
theorem read_str {s : JS} {st : List UInt8} {N p : Nat} (h : Str s st N p) (m : Nat) (hm : m ≤ s.ready.length) : Str (readS s m) st N (p + m) ∧ st.take p ++ s.ready.take m = st.take (p + m) := by
  have hrl : (readS s m).ready.length = s.ready.length - m := by show (s.ready.drop m).length = _; simp
  refine ⟨⟨read_inv s h.inv m, ?_, ?_, ?_, ?_⟩, ?_⟩
  · intro o ho b hb
    have := h.held o ho b hb
    rw [hrl, show p + m + (s.ready.length - m) + o = p + s.ready.length + o by omega]
    exact this
  · rw [hrl]; have := h.le; omega
  · rw [hrl]
    show s.ready.drop m = _
    conv => lhs; rw [h.ready]
    rw [List.drop_take, List.drop_drop]
  · rw [hrl]
    show s.next = _
    rw [h.next]
    congr 1
    omega
  · conv => lhs; rw [h.ready]
    rw [List.take_take, Nat.min_eq_left hm, List.take_add]
theorem new_str (st : List UInt8) (N room : Nat) (hN : N < 4294967296) (h2 : 1 ≤ room) (h3 : room ≤ 65535) : Str (newS N room) st N 0 := by
  refine ⟨new_inv _ _ (by omega) (by omega) h2 h3, ?_, by simp [newS], by simp [newS], ?_⟩
  · intro o _ b hb
    have : at_ (newS N room) o = none := by
      unfold at_
      rw [if_neg]
      show ¬ (List.replicate room false).getD _ false = true
      rw [List.getD_eq_getElem?_getD, List.getElem?_replicate]
      split <;> simp
    rw [this] at hb
    cases hb
  · show (N : Int) = _
    simp [newS]
    omega
theorem holdN_first : ∀ (l : List UInt8) (s : JS) (o : Nat), (holdN s o l).first = s.first
  | [], _, _ => rfl
  | x :: r, s, o => by
    show (holdN (holdS s o x) (o + 1) r).first = _
    rw [holdN_first r, (hold_ring s o x).2.1]
/-- All of it is added from its beginning on, with nothing ready: something moves, if something is missing. -/
theorem all_moves {s : JS} {st : List UInt8} {N p : Nat} (h : Str s st N p) (_hN : N < 4294967296) (hst : st.length ≤ 300) (hr : s.ready = []) (hp : p < st.length) : now (addS s N st) = true := by
  have hrl : s.ready.length = 0 := by rw [hr]; rfl
  have hf := h.inv.first
  have hro := h.inv.room
  have hwe : window s = s.ring.length := by unfold window; omega
  have hm : may (window s) st.length = true := by unfold may; simp; omega
  have hnx := h.next
  rw [hrl] at hnx
  have ht : trimCut s.next (window s) N st.length = cutAt s.next (window s) N st.length (window s) := by simp [trimCut, hm]
  have hl : trimLeft s.next (window s) N st.length = leftAt s.next (window s) N st.length (window s) := by simp [trimLeft, hm]
  have hc : cutAt s.next (window s) N st.length (window s) = if way s.next N < window s then 0 else if way N s.next < st.length ∧ 1 ≤ (window s : Int) then way N s.next else 0 := rfl
  have hll : leftAt s.next (window s) N st.length (window s) = if way s.next N < window s then min (st.length : Int) (max 0 ((window s : Int) - way s.next N)) else min (max 0 ((st.length : Int) - way N s.next)) (window s) := rfl
  have w1 : way N s.next = p := by rw [hnx]; unfold way; omega
  have w2 : way s.next N = (-(p : Int)) % 4294967296 := by rw [hnx]; unfold way; omega
  have cut : trimCut s.next (window s) N st.length = p ∧ 1 ≤ trimLeft s.next (window s) N st.length ∧ trimLeft s.next (window s) N st.length ≤ window s ∧ trimLeft s.next (window s) N st.length ≤ st.length - p := by
    rw [ht, hl, hc, hll, w1, w2]
    rcases Nat.eq_zero_or_pos p with h0 | h0
    · subst h0
      rw [if_pos (by simp; omega), if_pos (by simp; omega)]
      simp
      omega
    · have n1 : ¬ ((-(p : Int)) % 4294967296 < (window s : Int)) := by omega
      have y1 : (p : Int) < (st.length : Int) ∧ 1 ≤ (window s : Int) := by omega
      rw [if_neg n1, if_pos y1, if_neg n1]
      clear hc hll ht hl
      refine ⟨rfl, ?_, ?_, ?_⟩ <;> omega
  have hb : way s.next (addw N p) = 0 := by rw [hnx]; unfold way addw; omega
  unfold addS behind cutN leftN
  rw [cut.1, hb]
  obtain ⟨_, c1, c2, c3⟩ := cut
  generalize trimLeft s.next (window s) N st.length = L at *
  have hlen : ((st.drop p).take L.toNat).length = L.toNat := by rw [List.length_take, List.length_drop]; omega
  rw [Int.toNat_natCast]
  obtain ⟨b, hbb⟩ := holdN_now ((st.drop p).take L.toNat) s h.inv (by rw [hlen]; omega) (by rw [hlen]; omega)
  refine at_now _ ?_ hbb
  rw [holdN_ring]
  rw [show (0 : Int).toNat = 0 from rfl, holdN_first]
  exact hf
end Go.Proofs.Ytfijbbhoemdhbaa
