/-
  The plain mathematics of sums of 16-bit words that are carried round: no program in sight.
-/
namespace Go.Proofs.Ytpdkoooecnmjjaa

/-- A number with what is above 16 bits carried round: 0 alone is 0; else one from 1 to 65535, the same modulo 65535. -/
def rnd (n : Nat) : Nat := if n = 0 then 0 else (n - 1) % 65535 + 1

theorem rnd_le (n : Nat) : rnd n ≤ 65535 := by unfold rnd; split <;> omega
theorem rnd_small {n : Nat} (h : n ≤ 65535) : rnd n = n := by unfold rnd; split <;> omega
theorem rnd_step (n : Nat) : rnd (n % 65536 + n / 65536) = rnd n := by
  unfold rnd
  by_cases h : n = 0
  · subst h; rfl
  · rw [if_neg h, if_neg (by omega)]; omega
theorem rnd_add (a b : Nat) : rnd (rnd a + b) = rnd (a + b) := by
  unfold rnd
  by_cases h : a = 0
  · subst h; simp
  · simp only [h, if_false]
    rw [if_neg (by omega), if_neg (by omega)]; omega
theorem rnd_add' (a b : Nat) : rnd (a + rnd b) = rnd (a + b) := by rw [Nat.add_comm, rnd_add, Nat.add_comm]
theorem rnd_zero : rnd 0 = 0 := rfl
theorem rnd_pos {n : Nat} (h : 0 < n) : 0 < rnd n := by unfold rnd; rw [if_neg (by omega)]; omega

/-- The sum of the words of some bytes, the high byte first; a last lone byte is a high one. -/
def words : List UInt8 → Nat
  | [] => 0
  | [a] => 256 * a.toNat
  | a :: b :: r => 256 * a.toNat + b.toNat + words r

theorem words_append : ∀ (a b : List UInt8), a.length % 2 = 0 → words (a ++ b) = words a + words b
  | [], b, _ => by simp [words]
  | [x], b, h => by simp at h
  | x :: y :: r, b, h => by
    have := words_append r b (by simp at h; omega)
    simp [words, this]; omega

theorem words_snoc1 (a : List UInt8) (x : UInt8) (h : a.length % 2 = 0) : words (a ++ [x]) = words a + 256 * x.toNat := words_append a [x] h
theorem words_snoc2 (a : List UInt8) (x y : UInt8) (h : a.length % 2 = 0) : words (a ++ [x, y]) = words a + (256 * x.toNat + y.toNat) := words_append a [x, y] h

theorem words_le : ∀ (l : List UInt8), words l ≤ 65535 * l.length
  | [] => by simp [words]
  | [a] => by have := a.toNat_lt; simp [words]; omega
  | a :: b :: r => by
    have := words_le r
    have := a.toNat_lt
    have := b.toNat_lt
    simp [words]; omega

theorem u8_zero (x : UInt8) : x = 0 ↔ x.toNat = 0 := by rw [← UInt8.toNat_inj]; rfl
theorem words_zero : ∀ (l : List UInt8), words l = 0 ↔ ∀ x ∈ l, x = 0
  | [] => by simp [words]
  | [a] => by
    simp only [words, List.mem_singleton, forall_eq, u8_zero]; omega
  | a :: b :: r => by
    have h := words_zero r
    constructor
    · intro hw x hx
      simp only [words] at hw
      rcases List.mem_cons.1 hx with rfl | hx
      · rw [u8_zero]; omega
      · rcases List.mem_cons.1 hx with rfl | hx
        · rw [u8_zero]; omega
        · exact h.1 (by omega) x hx
    · intro hx
      have h1 := (u8_zero a).1 (hx a (by simp))
      have h2 := (u8_zero b).1 (hx b (by simp))
      have h3 := h.2 (fun x hm => hx x (by simp [hm]))
      simp only [words]; omega

/-- The two bytes at an even place stand in the sum by themselves. -/
theorem words_split (l : List UInt8) (k : Nat) (hk : k % 2 = 0) (h : k + 1 < l.length) :
    words l = words (l.take k) + (256 * (l.getD k 0).toNat + (l.getD (k + 1) 0).toNat) + words (l.drop (k + 2)) := by
  have e : l = l.take k ++ ([l.getD k 0, l.getD (k + 1) 0] ++ l.drop (k + 2)) := by
    conv => lhs; rw [← List.take_append_drop k l]
    congr 1
    rw [List.drop_eq_getElem_cons (by omega), List.drop_eq_getElem_cons (by omega)]
    simp [List.getD_eq_getElem?_getD, List.getElem?_eq_getElem (show k < l.length by omega), List.getElem?_eq_getElem h]
  conv => lhs; rw [e]
  rw [words_append _ _ (by rw [List.length_take]; omega), words_append [_, _] _ (by simp)]
  simp [words]; omega

theorem words_set (l : List UInt8) (k : Nat) (x y : UInt8) (hk : k % 2 = 0) (h : k + 1 < l.length) :
    words ((l.set k x).set (k + 1) y) + (256 * (l.getD k 0).toNat + (l.getD (k + 1) 0).toNat) = words l + (256 * x.toNat + y.toNat) := by
  have h1 := words_split l k hk h
  have h2 := words_split ((l.set k x).set (k + 1) y) k hk (by simpa using h)
  have e1 : ((l.set k x).set (k + 1) y).take k = l.take k := by
    rw [List.take_set_of_le (by omega), List.take_set_of_le (by omega)]
  have e2 : ((l.set k x).set (k + 1) y).drop (k + 2) = l.drop (k + 2) := by
    rw [List.drop_set_of_lt (by omega), List.drop_set_of_lt (by omega)]
  have e3 : ((l.set k x).set (k + 1) y).getD k 0 = x := by
    simp [List.getD_eq_getElem?_getD, show k < l.length by omega]
  have e4 : ((l.set k x).set (k + 1) y).getD (k + 1) 0 = y := by
    simp [List.getD_eq_getElem?_getD, h]
  rw [e1, e2, e3, e4] at h2
  omega

/-- Bytes with their own sum, turned, in the place of a word that was 0: all ones. -/
theorem rnd_right (n : Nat) : rnd (n + (65535 - rnd n)) = 65535 := by
  unfold rnd
  by_cases h : n = 0
  · subst h; rfl
  · simp only [h, if_false]
    rw [if_neg (by omega)]; omega

/-- A word turned. -/
theorem rnd_turned (n was now : Nat) (hw : was ≤ n) (h16 : was ≤ 65535) (h : n - was + now ≠ 0) :
    rnd (rnd n + (65535 - was) + now) = rnd (n - was + now) := by
  rw [Nat.add_assoc, rnd_add]
  unfold rnd
  rw [if_neg (by omega), if_neg h]; omega

end Go.Proofs.Ytpdkoooecnmjjaa
