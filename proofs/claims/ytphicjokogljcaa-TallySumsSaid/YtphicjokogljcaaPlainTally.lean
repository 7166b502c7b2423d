/-
  The plain theory of counts: sums over a list of counts.
-/
namespace Go.Proofs.Ytphicjokogljcaa

/-- What was counted once: a peer, a kind, in, out. -/
structure Cnt where
  p : Nat
  k : Nat
  i : Nat
  o : Nat

def hits (p k : Int) (c : Cnt) : Prop := (p < 0 ∨ (c.p : Int) = p) ∧ (k < 0 ∨ (c.k : Int) = k)
instance (p k : Int) (c : Cnt) : Decidable (hits p k c) := by unfold hits; infer_instance
def rsum (p k : Int) : List Cnt → Nat × Nat
  | [] => (0, 0)
  | c :: l => if hits p k c then (c.i + (rsum p k l).1, c.o + (rsum p k l).2) else rsum p k l

theorem rsum_append (p k : Int) : ∀ a b : List Cnt, rsum p k (a ++ b) = ((rsum p k a).1 + (rsum p k b).1, (rsum p k a).2 + (rsum p k b).2)
  | [], b => by simp [rsum]
  | c :: a, b => by
    have := rsum_append p k a b
    simp only [List.cons_append, rsum, this]
    split <;> simp <;> omega
theorem rsum_snoc (p k : Int) (a : List Cnt) (c : Cnt) : rsum p k (a ++ [c]) = if hits p k c then ((rsum p k a).1 + c.i, (rsum p k a).2 + c.o) else rsum p k a := by
  rw [rsum_append]
  simp only [rsum]
  split <;> simp
theorem rsum_le (p k : Int) (m : Nat) : ∀ a : List Cnt, (∀ c ∈ a, c.i ≤ m ∧ c.o ≤ m) → (rsum p k a).1 ≤ a.length * m ∧ (rsum p k a).2 ≤ a.length * m
  | [], _ => by simp [rsum]
  | c :: a, h => by
    have h1 := rsum_le p k m a (fun x hx => h x (by simp [hx]))
    have h2 := h c (by simp)
    simp only [rsum, List.length_cons, Nat.succ_mul]
    split
    · simp only
      omega
    · omega

/-- The sum of the first n of a row of pairs. -/
def psum (f : Nat → Nat × Nat) : Nat → Nat × Nat
  | 0 => (0, 0)
  | n + 1 => ((psum f n).1 + (f n).1, (psum f n).2 + (f n).2)
theorem psum_congr (f g : Nat → Nat × Nat) : ∀ n, (∀ j, j < n → f j = g j) → psum f n = psum g n
  | 0, _ => rfl
  | n + 1, h => by
    have := psum_congr f g n (fun j hj => h j (by omega))
    simp [psum, this, h n (by omega)]
theorem psum_zero : ∀ n, psum (fun _ => (0, 0)) n = (0, 0)
  | 0 => rfl
  | n + 1 => by simp [psum, psum_zero n]
theorem psum_add (f g : Nat → Nat × Nat) : ∀ n, psum (fun j => ((f j).1 + (g j).1, (f j).2 + (g j).2)) n = ((psum f n).1 + (psum g n).1, (psum f n).2 + (psum g n).2)
  | 0 => by simp [psum]
  | n + 1 => by
    have := psum_add f g n
    simp only [psum, this]
    ext <;> simp <;> omega
theorem psum_one (x : Nat × Nat) (m : Nat) : ∀ n, psum (fun j => if j = m then x else (0, 0)) n = if m < n then x else (0, 0)
  | 0 => by simp [psum]
  | n + 1 => by
    have := psum_one x m n
    simp only [psum]
    rw [this]
    rcases Nat.lt_trichotomy m n with h | h | h
    · rw [if_pos h, if_pos (show m < n + 1 by omega), if_neg (show ¬ n = m by omega)]; ext <;> simp
    · rw [if_neg (show ¬ m < n by omega), if_pos (show m < n + 1 by omega), if_pos (show n = m by omega)]; ext <;> simp
    · rw [if_neg (show ¬ m < n by omega), if_neg (show ¬ m < n + 1 by omega), if_neg (show ¬ n = m by omega)]; rfl

/-- Over all kinds. -/
theorem rsum_kinds (p : Int) : ∀ L : List Cnt, (∀ c ∈ L, c.k < 8) → psum (fun j => rsum p j L) 8 = rsum p (-1) L
  | [], _ => by simp only [rsum]; exact psum_zero 8
  | c :: L, h => by
    have ih := rsum_kinds p L (fun x hx => h x (by simp [hx]))
    have hc := h c (by simp)
    by_cases hq : p < 0 ∨ (c.p : Int) = p
    · have e : ∀ j : Nat, rsum p j (c :: L) = ((if j = c.k then (c.i, c.o) else (0, 0) : Nat × Nat).1 + (rsum p j L).1, (if j = c.k then (c.i, c.o) else (0, 0) : Nat × Nat).2 + (rsum p j L).2) := by
        intro j
        by_cases hj : j = c.k
        · rw [rsum, if_pos ⟨hq, .inr (by omega)⟩, if_pos hj]
        · rw [rsum, if_neg (fun hh => by have := hh.2; omega), if_neg hj]
          simp
      rw [psum_congr _ _ 8 (fun j _ => e j), psum_add, psum_one, ih, if_pos hc, rsum, if_pos ⟨hq, .inl (by omega)⟩]
    · have e : ∀ k : Int, rsum p k (c :: L) = rsum p k L := fun k => by rw [rsum, if_neg (fun hh => hq hh.1)]
      rw [e, ← ih]
      exact psum_congr _ _ 8 (fun j _ => e j)
/-- Over all peers. -/
theorem rsum_peers (k : Int) (n : Nat) : ∀ L : List Cnt, (∀ c ∈ L, c.p < n) → psum (fun j => rsum j k L) n = rsum (-1) k L
  | [], _ => by simp only [rsum]; exact psum_zero n
  | c :: L, h => by
    have ih := rsum_peers k n L (fun x hx => h x (by simp [hx]))
    have hc := h c (by simp)
    by_cases hq : k < 0 ∨ (c.k : Int) = k
    · have e : ∀ j : Nat, rsum j k (c :: L) = ((if j = c.p then (c.i, c.o) else (0, 0) : Nat × Nat).1 + (rsum j k L).1, (if j = c.p then (c.i, c.o) else (0, 0) : Nat × Nat).2 + (rsum j k L).2) := by
        intro j
        by_cases hj : j = c.p
        · rw [rsum, if_pos ⟨.inr (by omega), hq⟩, if_pos hj]
        · rw [rsum, if_neg (fun hh => by have := hh.1; omega), if_neg hj]
          simp
      rw [psum_congr _ _ n (fun j _ => e j), psum_add, psum_one, ih, if_pos hc, rsum, if_pos ⟨.inl (by omega), hq⟩]
    · have e : ∀ p : Int, rsum p k (c :: L) = rsum p k L := fun p => by rw [rsum, if_neg (fun hh => hq hh.2)]
      rw [e, ← ih]
      exact psum_congr _ _ n (fun j _ => e j)
/-- A peer's taken away. -/
theorem rsum_clear (p q : Nat) (k : Int) : ∀ L : List Cnt, rsum p k (L.filter fun c => decide (c.p ≠ q)) = if p = q then (0, 0) else rsum p k L
  | [] => by simp [rsum]
  | c :: L => by
    have ih := rsum_clear p q k L
    by_cases hc : c.p = q
    · rw [List.filter_cons_of_neg (by simpa using hc), ih]
      by_cases hp : p = q
      · rw [if_pos hp, if_pos hp]
      · rw [if_neg hp, if_neg hp, rsum, if_neg (fun hh => by have := hh.1; omega)]
    · rw [List.filter_cons_of_pos (by simpa using hc), rsum, ih]
      by_cases hp : p = q
      · rw [if_pos hp, if_pos hp, if_neg (fun hh => by have := hh.1; omega)]
      · rw [if_neg hp, if_neg hp, rsum]

/-- What a tally has is what the list's sums say. -/
structure Books (L : List Cnt) (n : Nat) (f : Nat → Nat × Nat) : Prop where
  ok : ∀ c ∈ L, c.p < n ∧ c.k < 8 ∧ c.i ≤ 4294967296 ∧ c.o ≤ 4294967296
  eq : ∀ p k, p < 16 → k < 8 → f (p * 8 + k) = rsum p k L
theorem Books.nil (n : Nat) : Books [] n (fun _ => (0, 0)) := ⟨(fun c hc => by cases hc), fun _ _ _ _ => rfl⟩
theorem Books.add {L : List Cnt} {n : Nat} {f : Nat → Nat × Nat} (h : Books L n f) (c : Cnt) (hc : c.p < n ∧ c.k < 8 ∧ c.i ≤ 4294967296 ∧ c.o ≤ 4294967296) :
    Books (L ++ [c]) n (fun j => if j = c.p * 8 + c.k then ((f (c.p * 8 + c.k)).1 + c.i, (f (c.p * 8 + c.k)).2 + c.o) else f j) := by
  refine ⟨fun x hx => ?_, fun p k hp hk => ?_⟩
  · rcases List.mem_append.1 hx with hx | hx
    · exact h.ok x hx
    · simp at hx; subst hx; exact hc
  · rw [rsum_snoc]
    by_cases hh : p = c.p ∧ k = c.k
    · obtain ⟨rfl, rfl⟩ := hh
      rw [if_pos rfl, if_pos ⟨.inr rfl, .inr rfl⟩, h.eq c.p c.k hp hk]
    · rw [if_neg (by omega), if_neg (fun hq => by have h1 := hq.1; have h2 := hq.2; omega), h.eq p k hp hk]
theorem Books.clear {L : List Cnt} {n : Nat} {f : Nat → Nat × Nat} (h : Books L n f) (q : Nat) :
    Books (L.filter fun c => decide (c.p ≠ q)) n (fun j => if q * 8 ≤ j ∧ j < q * 8 + 8 then (0, 0) else f j) := by
  refine ⟨fun x hx => h.ok x (List.mem_filter.1 hx).1, fun p k hp hk => ?_⟩
  rw [rsum_clear]
  by_cases hq : p = q
  · subst hq
    rw [if_pos (by omega), if_pos rfl]
  · rw [if_neg (by omega), if_neg hq, h.eq p k hp hk]
end Go.Proofs.Ytphicjokogljcaa
