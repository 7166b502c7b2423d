/-
  The plain theory: the tally's answers and the reference's are the same.
-/
import Derived.Test.YtphicjokogljcaaRefTally4
namespace Go.Proofs.Ytphicjokogljcaa
open Go.RowKit
set_option linter.unusedVariables false

theorem psum_off (h : Nat → Nat × Nat) (a : Nat) : ∀ b, psum h (a + b) = ((psum h a).1 + (psum (fun j => h (a + j)) b).1, (psum h a).2 + (psum (fun j => h (a + j)) b).2)
  | 0 => by simp [psum]
  | b + 1 => by
    have ih := psum_off h a b
    rw [show a + (b + 1) = (a + b) + 1 by omega]
    simp only [psum, ih]
    ext <;> simp <;> omega
theorem psum_rows (h : Nat → Nat × Nat) : ∀ m, psum h (m * 8) = psum (fun p => psum (fun j => h (p * 8 + j)) 8) m
  | 0 => by simp [psum]
  | m + 1 => by
    rw [show (m + 1) * 8 = m * 8 + 8 by omega, psum_off, psum_rows h m]
    rfl

section
variable {L : List Cnt} {n : Nat} {f : Nat → Nat × Nat}
theorem books_picked (h : Books L n f) (q : Nat → Nat → Bool) : psum (picked q f) 128 = psum (fun p => psum (fun j => if q p j then rsum p j L else (0, 0)) 8) 16 := by
  rw [show (128 : Nat) = 16 * 8 from rfl, psum_rows]
  refine psum_congr _ _ 16 fun p hp => psum_congr _ _ 8 fun j hj => ?_
  show picked q f (p * 8 + j) = _
  rw [picked_at q f p j hj, h.eq p j hp hj]
theorem books_peer (h : Books L n f) (k : Nat) (hk : k < 16) : psum (picked (fun p _ => ((p : Int) == (k : Int))) f) 128 = rsum k (-1) L := by
  rw [books_picked h]
  have e : ∀ p : Nat, p < 16 → psum (fun j => if ((p : Int) == (k : Int)) then rsum p j L else (0, 0)) 8 = if p = k then rsum k (-1) L else (0, 0) := by
    intro p hp
    by_cases hpk : p = k
    · subst hpk
      rw [if_pos rfl]
      simp only [beq_self_eq_true, if_true]
      exact rsum_kinds p L (fun c hc => (h.ok c hc).2.1)
    · rw [if_neg hpk]
      have : ((p : Int) == (k : Int)) = false := by simp; omega
      simp only [this]
      exact psum_zero 8
  rw [psum_congr _ _ 16 e, psum_one, if_pos hk]
theorem books_kind (h : Books L n f) (hn : n ≤ 16) (k : Nat) (hk : k < 8) : psum (picked (fun _ j => ((j : Int) == (k : Int))) f) 128 = rsum (-1) k L := by
  rw [books_picked h]
  have e : ∀ p : Nat, p < 16 → psum (fun j => if ((j : Int) == (k : Int)) then rsum p j L else (0, 0)) 8 = rsum p k L := by
    intro p hp
    have : ∀ j : Nat, j < 8 → (if ((j : Int) == (k : Int)) then rsum p j L else (0, 0)) = if j = k then rsum p k L else (0, 0) := by
      intro j _
      by_cases hj : j = k
      · subst hj; simp
      · rw [if_neg hj, if_neg (by simp; omega)]
    rw [psum_congr _ _ 8 this, psum_one, if_pos hk]
  rw [psum_congr _ _ 16 e]
  exact rsum_peers k 16 L (fun c hc => Nat.lt_of_lt_of_le (h.ok c hc).1 hn)
theorem books_all (h : Books L n f) (hn : n ≤ 16) : psum (picked (fun _ _ => true) f) 128 = rsum (-1) (-1) L := by
  rw [books_picked h]
  have e : ∀ p : Nat, p < 16 → psum (fun j => if true then rsum p j L else (0, 0)) 8 = rsum p (-1) L := by
    intro p hp
    simp only [if_true]
    exact rsum_kinds p L (fun c hc => (h.ok c hc).2.1)
  rw [psum_congr _ _ 16 e]
  exact rsum_peers (-1) 16 L (fun c hc => Nat.lt_of_lt_of_le (h.ok c hc).1 hn)
theorem Books.few (h : Books L n f) (hl : L.length ≤ 60) : FewC L := ⟨hl, fun c hc => (h.ok c hc).2.2⟩
theorem few_small (h : FewC L) (p k : Int) : Small (rsum p k L) := by
  have := h.sum p k L.length
  rw [List.take_length] at this
  unfold Small
  omega
theorem books_at (h : Books L n f) (hn : n ≤ 16) (p k : Int) (hi : inT n p k) : f (ix p k) = rsum p k L := by
  obtain ⟨h0, h1, h2, h3⟩ := hi
  have := h.eq p.toNat k.toNat (by omega) (by omega)
  rw [Int.toNat_of_nonneg h0, Int.toNat_of_nonneg h2] at this
  exact this
theorem rsum_none (p k : Int) : ∀ L : List Cnt, (∀ c ∈ L, ¬ hits p k c) → rsum p k L = (0, 0)
  | [], _ => rfl
  | c :: L, h => by
    rw [rsum, if_neg (h c (by simp))]
    exact rsum_none p k L (fun x hx => h x (by simp [hx]))
theorem books_get (h : Books L n f) (hn : n ≤ 16) (p k : Int) (hp : 0 ≤ p) (hk : 0 ≤ k) : getIn n f p k = rsum p k L := by
  by_cases hi : inT n p k
  · rw [getIn, if_pos hi, books_at h hn p k hi]
  · rw [getIn, if_neg hi, rsum_none]
    intro c hc hh
    have := h.ok c hc
    have h1 := hh.1
    have h2 := hh.2
    exact hi ⟨hp, by omega, hk, by omega⟩
theorem get_out (p k : Int) (hq : p < 0 ∨ k < 0) : getIn n f p k = (0, 0) := by
  rw [getIn, if_neg]
  intro h
  have := h.1
  have := h.2.2.1
  omega
theorem books_full (h : Books L n f) (hn : n ≤ 16) (p k i o : Int) (hi : inT n p k) : full f p k i o ↔ rfull L p k i o := by
  unfold full rfull
  rw [books_at h hn p k hi]
theorem books_addE (h : Books L n f) (hn : n ≤ 16) (p k i o : Int) : addE n f p k i o = raddE n L p k i o := by
  unfold addE raddE
  by_cases h2 : ok2 n p k i o
  · rw [if_pos h2, if_pos h2]
    by_cases h3 : full f p k i o
    · rw [if_pos h3, if_pos ((books_full h hn p k i o h2.1).1 h3)]
    · rw [if_neg h3, if_neg (fun q => h3 ((books_full h hn p k i o h2.1).2 q))]
  · rw [if_neg h2, if_neg h2]
theorem books_add (h : Books L n f) (hn : n ≤ 16) (p k i o : Int) : Books (raddL n L p k i o) n (addF n f p k i o) ∧ (raddL n L p k i o).length ≤ L.length + 1 := by
  unfold addF raddL
  by_cases h2 : ok2 n p k i o
  · rw [if_pos h2, if_pos h2]
    by_cases h3 : full f p k i o
    · rw [if_pos h3, if_pos ((books_full h hn p k i o h2.1).1 h3)]
      exact ⟨h, by omega⟩
    · rw [if_neg h3, if_neg (fun q => h3 ((books_full h hn p k i o h2.1).2 q))]
      obtain ⟨⟨h0, h1, h4, h5⟩, h6, h7⟩ := h2
      unfold fewB at h6 h7
      simp at h6 h7
      exact ⟨h.add ⟨p.toNat, k.toNat, i.toNat, o.toNat⟩ ⟨by simp only; omega, by simp only; omega, by simp only; omega, by simp only; omega⟩, by simp⟩
  · rw [if_neg h2, if_neg h2]
    exact ⟨h, by omega⟩
theorem books_clear (h : Books L n f) (p : Int) : Books (rclearL n L p) n (clearF n f p) ∧ (rclearL n L p).length ≤ L.length + 1 := by
  unfold rclearL clearF
  by_cases h2 : 0 ≤ p ∧ p < n
  · rw [if_pos h2, if_pos h2]
    exact ⟨h.clear p.toNat, Nat.le_trans (List.length_filter_le _ _) (by omega)⟩
  · rw [if_neg h2, if_neg h2]
    exact ⟨h, by omega⟩
end
end Go.Proofs.Ytphicjokogljcaa
