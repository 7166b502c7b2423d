/-
  The plain mathematics of the reference's joint, held against the joint's.
-/
import Derived.Test.YtfijbbhoemdhbaaPlainStream
namespace Go.Proofs.Ytfijbbhoemdhbaa
set_option linter.unusedVariables false

/-- Bytes that the reference holds: how far behind next. -/
abbrev HB := List (Nat × UInt8)
def hlook (o : Nat) : HB → Option UInt8
  | [] => none
  | x :: r => if x.1 = o then some x.2 else hlook o r
theorem hlook_append (o : Nat) : ∀ a b : HB, hlook o (a ++ b) = (hlook o a).or (hlook o b)
  | [], b => by simp [hlook]
  | x :: r, b => by
    simp only [List.cons_append, hlook]
    split
    · rfl
    · exact hlook_append o r b
theorem hlook_none {o : Nat} : ∀ {h : HB}, (∀ x ∈ h, x.1 ≠ o) → hlook o h = none
  | [], _ => rfl
  | x :: r, hh => by
    rw [hlook, if_neg (hh x (by simp))]
    exact hlook_none (fun y hy => hh y (by simp [hy]))
theorem hlook_some {o : Nat} : ∀ {h : HB} {b : UInt8}, hlook o h = some b → (o, b) ∈ h
  | x :: r, b, hh => by
    rw [hlook] at hh
    split at hh
    · rename_i e
      injection hh with hh
      subst e hh
      simp
    · exact List.mem_cons_of_mem _ (hlook_some hh)
def rhold (h : HB) (o : Nat) (b : UInt8) : HB := if (hlook o h).isSome = true then h else h ++ [(o, b)]
def rholdN : HB → Nat → List UInt8 → HB
  | h, _, [] => h
  | h, o, x :: r => rholdN (rhold h o x) (o + 1) r
/-- One byte that is added: outside the window it is passed by. -/
def rstep (next f : Int) (W : Nat) (h : HB) (i : Nat) (x : UInt8) : HB := if way next (addw f i) < W then rhold h (way next (addw f i)).toNat x else h
def raddN (next f : Int) (W : Nat) : HB → Nat → List UInt8 → HB
  | h, _, [] => h
  | h, i, x :: r => raddN next f W (rstep next f W h i x) (i + 1) r
theorem raddN_append (next f : Int) (W : Nat) : ∀ (a b : List UInt8) (h : HB) (i : Nat), raddN next f W h i (a ++ b) = raddN next f W (raddN next f W h i a) (i + a.length) b
  | [], b, h, i => rfl
  | x :: a, b, h, i => by
    show raddN next f W _ (i + 1) (a ++ b) = _
    rw [raddN_append next f W a b, show i + 1 + a.length = i + (x :: a).length by simp; omega]
    rfl
theorem raddN_snoc (next f : Int) (W : Nat) (a : List UInt8) (x : UInt8) (h : HB) (i : Nat) : raddN next f W h i (a ++ [x]) = rstep next f W (raddN next f W h i a) (i + a.length) x := by
  rw [raddN_append]
  rfl
theorem raddN_skip (next f : Int) (W : Nat) : ∀ (l : List UInt8) (h : HB) (i : Nat), (∀ j : Nat, j < l.length → ¬ way next (addw f (i + j : Nat)) < W) → raddN next f W h i l = h
  | [], _, _, _ => rfl
  | x :: l, h, i, hh => by
    show raddN next f W (rstep next f W h i x) (i + 1) l = h
    have h0 := hh 0 (by simp)
    rw [Nat.add_zero] at h0
    rw [rstep, if_neg h0]
    refine raddN_skip next f W l h (i + 1) fun j hj => ?_
    have := hh (j + 1) (by simp; omega)
    rwa [show i + 1 + j = i + (j + 1) by omega]
theorem raddN_hold (next f : Int) (W : Nat) : ∀ (l : List UInt8) (h : HB) (i o : Nat), (∀ j : Nat, j < l.length → way next (addw f (i + j : Nat)) = ((o + j : Nat) : Int) ∧ o + j < W) → raddN next f W h i l = rholdN h o l
  | [], _, _, _, _ => rfl
  | x :: l, h, i, o, hh => by
    show raddN next f W (rstep next f W h i x) (i + 1) l = rholdN (rhold h o x) (o + 1) l
    have h0 := hh 0 (by simp)
    simp only [Nat.add_zero] at h0
    rw [rstep, h0.1, if_pos (by omega), Int.toNat_natCast]
    refine raddN_hold next f W l _ (i + 1) (o + 1) fun j hj => ?_
    have := hh (j + 1) (by simp; omega)
    rwa [show i + 1 + j = i + (j + 1) by omega, show o + 1 + j = o + (j + 1) by omega]

/-- What the reference holds is what the joint holds. -/
structure Rel (s : JS) (h : HB) : Prop where
  at_ : ∀ o, o < s.ring.length → at_ s o = hlook o h
  lt : ∀ x ∈ h, x.1 < s.ring.length
  nd : (h.map Prod.fst).Nodup
  len : (h.length : Int) = s.held

theorem has_at {s : JS} {o : Nat} : s.has.getD (plc s o) false = true ↔ (at_ s o).isSome = true := by
  unfold at_
  split <;> simp_all
theorem hold_rel {s : JS} {h : HB} (r : Rel s h) (i : Inv s) {o : Nat} (ho : o < window s) (b : UInt8) : Rel (holdS s o b) (rhold h o b) := by
  have hon : o < s.ring.length := by unfold window at ho; omega
  have hring := (hold_ring s o b).1
  have hq := r.at_ o hon
  by_cases hs : (hlook o h).isSome = true
  · have e1 : holdS s o b = s := by rw [holdS, if_pos (has_at.2 (by rw [hq]; exact hs))]
    rw [e1, rhold, if_pos hs]
    exact r
  · have hn : hlook o h = none := by simpa using hs
    have e1 : holdS s o b = { s with ring := s.ring.set (plc s o) b, has := s.has.set (plc s o) true, held := s.held + 1 } := by rw [holdS, if_neg (fun hh => hs (by rw [← hq]; exact has_at.1 hh))]
    rw [rhold, if_neg hs]
    refine ⟨fun o' ho' => ?_, fun x hx => ?_, ?_, ?_⟩
    · rw [hring] at ho'
      rw [hold_at s i.first i.len o o' hon ho', hlook_append, r.at_ o' ho', hq, hn]
      by_cases e : o' = o
      · subst e
        rw [if_pos rfl, hn]
        simp [hlook]
      · rw [if_neg e]
        rw [hlook, hlook, if_neg (fun e' => e e'.symm)]
        simp
    · rw [hring]
      rcases List.mem_append.1 hx with hx | hx
      · exact r.lt x hx
      · simp at hx; subst hx; exact hon
    · rw [List.map_append, List.nodup_append]
      refine ⟨r.nd, by simp, ?_⟩
      intro a ha c hc
      simp at hc
      subst hc
      rintro rfl
      obtain ⟨x, hx, rfl⟩ := List.mem_map.1 ha
      have : ∀ {l : HB}, x ∈ l → (hlook x.1 l).isSome = true := by
        intro l
        induction l with
        | nil => intro hx; cases hx
        | cons y l ih =>
          intro hx
          rw [hlook]
          split
          · rfl
          · rcases List.mem_cons.1 hx with rfl | hx
            · simp_all
            · exact ih hx
      exact hs (this hx)
    · rw [e1]
      simp
      exact r.len
theorem holdN_rel : ∀ (l : List UInt8) {s : JS} {h : HB} (_ : Rel s h) (_ : Inv s) (o : Nat) (_ : o + l.length ≤ window s), Rel (holdN s o l) (rholdN h o l) ∧ Inv (holdN s o l)
  | [], s, h, r, i, _, _ => ⟨r, i⟩
  | x :: l, s, h, r, i, o, hw => by
    simp only [List.length_cons] at hw
    have e : window (holdS s o x) = window s := by unfold window; rw [(hold_ring s o x).1, (hold_ring s o x).2.2.1]
    exact holdN_rel l (hold_rel r i (by omega) x) (hold_inv s i o (by omega) x) (o + 1) (by omega)

theorem add_rel {s : JS} {h : HB} (r : Rel s h) (i : Inv s) (f : Int) (f0 : 0 ≤ f) (f1 : f < 4294967296) (bs : List UInt8) (hb : bs.length ≤ 65536) :
    Rel (addS s f bs) (raddN s.next f (window s) h 0 bs) ∧ Inv (addS s f bs) := by
  have n0 := i.n0
  have n1 := i.n1
  have hro := i.room
  have hw : window s ≤ 65535 := by unfold window; omega
  have hm : may (window s) bs.length = true := by unfold may; simp; omega
  have ht : trimCut s.next (window s) f bs.length = cutAt s.next (window s) f bs.length (window s) := by simp [trimCut, hm]
  have hl : trimLeft s.next (window s) f bs.length = leftAt s.next (window s) f bs.length (window s) := by simp [trimLeft, hm]
  have hc : cutAt s.next (window s) f bs.length (window s) = if way s.next f < window s then 0 else if way f s.next < bs.length ∧ 1 ≤ (window s : Int) then way f s.next else 0 := rfl
  have hll : leftAt s.next (window s) f bs.length (window s) = if way s.next f < window s then min (bs.length : Int) (max 0 ((window s : Int) - way s.next f)) else min (max 0 ((bs.length : Int) - way f s.next)) (window s) := rfl
  unfold addS behind cutN leftN
  rw [ht, hl, hc, hll]
  generalize hW : window s = W at *
  generalize hn : bs.length = n at *
  have key : ∀ (C L o : Nat), C + L ≤ n → (∀ j : Nat, j < C → ¬ way s.next (addw f j) < W) → (∀ j : Nat, j < L → way s.next (addw f (C + j : Nat)) = ((o + j : Nat) : Int) ∧ o + j < W) →
      (∀ j : Nat, C + L ≤ j → j < n → ¬ way s.next (addw f j) < W) → raddN s.next f W h 0 bs = rholdN h o ((bs.drop C).take L) := by
    intro C L o hCL h1 h2 h3
    have e : bs = bs.take C ++ ((bs.drop C).take L ++ bs.drop (C + L)) := by
      rw [← List.drop_drop, List.take_append_drop, List.take_append_drop]
    have l1 : (bs.take C).length = C := by rw [List.length_take]; omega
    have l2 : ((bs.drop C).take L).length = L := by rw [List.length_take, List.length_drop]; omega
    conv => lhs; rw [e]
    rw [raddN_append, raddN_append, raddN_skip s.next f W (bs.take C) h 0 (fun j hj => by rw [l1] at hj; rw [Nat.zero_add]; exact h1 j hj), l1, l2, Nat.zero_add,
      raddN_hold s.next f W ((bs.drop C).take L) h C o (fun j hj => h2 j (by omega)), raddN_skip]
    intro j hj
    rw [List.length_drop] at hj
    exact h3 _ (by omega) (by omega)
  have b1 := way_bd s.next f
  have b2 := way_bd f s.next
  by_cases h3 : way s.next f < W
  · rw [if_pos h3, if_pos h3]
    have q1 : way s.next (addw f 0) = way s.next f := by unfold way addw; omega
    rw [q1]
    obtain ⟨a, ha⟩ := Int.eq_ofNat_of_zero_le b1.1
    have hlin : ∀ j : Nat, j < n → way s.next (addw f j) = a + j := by intro j hj; unfold way addw at *; omega
    rw [ha] at h3 ⊢
    have hL : (min (n : Int) (max 0 ((W : Int) - a))).toNat = min n (W - a) := by omega
    rw [hL, Int.toNat_natCast, show ((0 : Int).toNat) = 0 from rfl]
    rw [key 0 (min n (W - a)) a (by omega) (fun j hj => by omega) (fun j hj => by rw [Nat.zero_add, hlin j (by omega)]; omega) (fun j h1 h2 => by rw [hlin j h2]; omega)]
    exact holdN_rel _ r i a (by rw [hW, List.length_take, List.length_drop]; omega)
  · rw [if_neg h3, if_neg h3]
    by_cases h4 : way f s.next < n ∧ 1 ≤ (W : Int)
    · rw [if_pos h4]
      obtain ⟨q, hq⟩ := Int.eq_ofNat_of_zero_le b2.1
      have q1 : way s.next (addw f (way f s.next)) = 0 := by unfold way addw; omega
      have hlin : ∀ j : Nat, j < n → way s.next (addw f j) = if j < q then way s.next f + j else (j : Int) - q := by
        intro j hj
        unfold way addw at *
        split <;> omega
      rw [q1]
      rw [hq] at h4 ⊢
      have hL : (min (max 0 ((n : Int) - q)) (W : Int)).toNat = min (n - q) W := by omega
      rw [hL, Int.toNat_natCast, show ((0 : Int).toNat) = 0 from rfl]
      rw [key q (min (n - q) W) 0 (by omega) (fun j hj => by rw [hlin j (by omega), if_pos hj]; omega) (fun j hj => by rw [hlin (q + j) (by omega), if_neg (by omega)]; omega) (fun j h1 h2 => by rw [hlin j h2, if_neg (by omega)]; omega)]
      exact holdN_rel _ r i 0 (by rw [hW, List.length_take, List.length_drop]; omega)
    · rw [if_neg h4]
      have hL : (min (max 0 ((n : Int) - way f s.next)) (W : Int)).toNat = 0 := by omega
      rw [hL, List.take_zero]
      have hk := key 0 0 0 (by omega) (fun j hj => by omega) (fun j hj => by omega) (fun j h1 h2 => by unfold way addw at *; omega)
      rw [List.take_zero] at hk
      rw [hk]
      exact ⟨r, i⟩

/-- The first n are handed on: the others stand nearer. -/
def rdrop (n : Nat) (h : HB) : HB := (h.filter fun x => decide (n ≤ x.1)).map fun x => (x.1 - n, x.2)
theorem rdrop_zero (h : HB) : rdrop 0 h = h := by simp [rdrop]
theorem rdrop_succ (n : Nat) : ∀ h : HB, rdrop 1 (rdrop n h) = rdrop (n + 1) h
  | [] => rfl
  | x :: h => by
    have ih := rdrop_succ n h
    unfold rdrop at ih ⊢
    by_cases h1 : n ≤ x.1
    · by_cases h2 : n + 1 ≤ x.1
      · simp [h1, h2, show 1 ≤ x.1 - n by omega] at ih ⊢
        exact ⟨by omega, ih⟩
      · simp [h1, h2, show ¬ 1 ≤ x.1 - n by omega] at ih ⊢
        exact ih
    · simp [h1, show ¬ n + 1 ≤ x.1 by omega] at ih ⊢
      exact ih
theorem hlook_drop (n o : Nat) : ∀ h : HB, hlook o (rdrop n h) = hlook (o + n) h
  | [] => rfl
  | x :: h => by
    have ih := hlook_drop n o h
    unfold rdrop at ih ⊢
    by_cases h1 : n ≤ x.1
    · rw [List.filter_cons_of_pos (by simpa using h1), List.map_cons, hlook, hlook, ih]
      by_cases h2 : x.1 = o + n
      · rw [if_pos h2, if_pos (by simp only; omega)]
      · rw [if_neg h2, if_neg (by simp only; omega)]
    · rw [List.filter_cons_of_neg (by simpa using h1), ih]
      conv => rhs; rw [hlook, if_neg (by omega)]
theorem rdrop_lt {n R : Nat} {h : HB} (hh : ∀ x ∈ h, x.1 < R) : ∀ x ∈ rdrop n h, x.1 < R := by
  intro x hx
  unfold rdrop at hx
  obtain ⟨y, hy, rfl⟩ := List.mem_map.1 hx
  have := hh y (List.mem_filter.1 hy).1
  simp only
  omega
theorem rdrop_nd {n : Nat} : ∀ {h : HB}, (h.map Prod.fst).Nodup → ((rdrop n h).map Prod.fst).Nodup
  | [], _ => by simp [rdrop]
  | x :: h, hn => by
    rw [List.map_cons, List.nodup_cons] at hn
    have ih := rdrop_nd (n := n) hn.2
    unfold rdrop at ih ⊢
    by_cases h1 : n ≤ x.1
    · rw [List.filter_cons_of_pos (by simpa using h1), List.map_cons, List.map_cons, List.nodup_cons]
      refine ⟨?_, ih⟩
      intro hm
      obtain ⟨y, hy, e⟩ := List.mem_map.1 hm
      obtain ⟨z, hz, rfl⟩ := List.mem_map.1 hy
      have hz' := List.mem_filter.1 hz
      have h2 : n ≤ z.1 := by simpa using hz'.2
      simp only at e
      exact hn.1 (List.mem_map.2 ⟨z, hz'.1, by omega⟩)
    · rw [List.filter_cons_of_neg (by simpa using h1)]
      exact ih
theorem rdrop_len0 : ∀ {h : HB}, (∀ x ∈ h, x.1 ≠ 0) → (rdrop 1 h).length = h.length
  | [], _ => rfl
  | x :: h, hn => by
    have ih := rdrop_len0 (fun y hy => hn y (List.mem_cons_of_mem _ hy))
    have h0 := hn x (by simp)
    unfold rdrop at ih ⊢
    rw [List.filter_cons_of_pos (by simp; omega)]
    simp at ih ⊢
    exact ih
theorem rdrop_len : ∀ {h : HB} {b : UInt8}, (h.map Prod.fst).Nodup → hlook 0 h = some b → (rdrop 1 h).length + 1 = h.length
  | x :: h, b, hn, hl => by
    rw [List.map_cons, List.nodup_cons] at hn
    rw [hlook] at hl
    by_cases h0 : x.1 = 0
    · have := rdrop_len0 (h := h) (fun y hy e => hn.1 (List.mem_map.2 ⟨y, hy, by omega⟩))
      unfold rdrop at this ⊢
      rw [List.filter_cons_of_neg (by simp; omega)]
      simp at this ⊢
      exact this
    · rw [if_neg h0] at hl
      have ih := rdrop_len hn.2 hl
      unfold rdrop at ih ⊢
      rw [List.filter_cons_of_pos (by simp; omega)]
      simp at ih ⊢
      exact ih

theorem step_rel {s : JS} {h : HB} (r : Rel s h) (i : Inv s) (hn : now s = true) : Rel (stepS s) (rdrop 1 h) ∧ Inv (stepS s) := by
  have hs := step_inv s i hn
  have hf := i.first
  have h0 := now_at s hf hn
  rw [r.at_ 0 (by omega)] at h0
  refine ⟨⟨fun o ho => ?_, ?_, rdrop_nd r.nd, ?_⟩, hs.1⟩
  · have ho' : o < s.ring.length := ho
    rw [step_at s hf i.len o ho', hlook_drop]
    split
    · exact r.at_ (o + 1) (by assumption)
    · exact (hlook_none (fun x hx e => by have := r.lt x hx; omega)).symm
  · exact rdrop_lt (R := s.ring.length) r.lt
  · show ((rdrop 1 h).length : Int) = s.held - 1
    have := rdrop_len r.nd h0
    have := r.len
    omega
theorem run_rel : ∀ (k : Nat) {s : JS} {h : HB} (_ : Rel s h) (_ : Inv s) (_ : ∀ i, i < k → now (runS i s) = true), Rel (runS k s) (rdrop k h) ∧ Inv (runS k s)
  | 0, s, h, r, i, _ => by rw [rdrop_zero]; exact ⟨r, i⟩
  | k + 1, s, h, r, i, hn => by
    obtain ⟨r1, i1⟩ := run_rel k r i (fun j hj => hn j (by omega))
    rw [runS_succ, ← rdrop_succ]
    exact step_rel r1 i1 (hn k (by omega))
/-- What the reference finds at n. -/
theorem run_look {s : JS} {h : HB} (r : Rel s h) (i : Inv s) (n : Nat) (hn : ∀ j, j < n → now (runS j s) = true) :
    hlook n h = if now (runS n s) = true then some ((runS n s).ring.getD (runS n s).first 0) else none := by
  obtain ⟨r1, i1⟩ := run_rel n r i hn
  have hf := i1.first
  have e := r1.at_ 0 (by omega)
  rw [hlook_drop, Nat.zero_add] at e
  rw [← e]
  cases hw : now (runS n s)
  · rw [if_neg (by simp)]
    cases ha : at_ (runS n s) 0 with
    | none => rfl
    | some b => rw [at_now _ hf ha] at hw; cases hw
  · rw [if_pos rfl]
    exact now_at _ hf hw
theorem runS_window {s : JS} {h : HB} (r : Rel s h) (i : Inv s) (k : Nat) (hn : ∀ j, j < k → now (runS j s) = true) : k ≤ window s := by
  have i1 := (run_rel k r i hn).2
  have := i1.few
  rw [runS_ready, runS_ring] at this
  unfold window
  omega
theorem runS_got (s : JS) (k : Nat) : (runS (k + 1) s).ready = (runS k s).ready ++ [(runS k s).ring.getD (runS k s).first 0] := by rw [runS_succ]; rfl
theorem runS_next (s : JS) (h0 : 0 ≤ s.next) (h1 : s.next < 4294967296) : ∀ k : Nat, (runS k s).next = addw s.next k
  | 0 => by show s.next = _; unfold addw; omega
  | k + 1 => by
    rw [runS_succ]
    show ((runS k s).next + 1) % 4294967296 = _
    rw [runS_next s h0 h1 k]
    unfold addw
    omega
theorem read_rel {s : JS} {h : HB} (r : Rel s h) (m : Nat) : Rel (readS s m) h := ⟨r.at_, r.lt, r.nd, r.len⟩
theorem new_rel (N : Int) (room : Nat) : Rel (newS N room) [] := by
  refine ⟨fun o _ => ?_, (fun x hx => by cases hx), by simp, by simp [newS]⟩
  rw [hlook]
  unfold at_
  rw [if_neg]
  show ¬ (List.replicate room false).getD _ false = true
  rw [List.getD_eq_getElem?_getD, List.getElem?_replicate]
  split <;> simp
end Go.Proofs.Ytfijbbhoemdhbaa
