/-
  The reference's tally: what it has, and the walks of New, few, Sum.
-/
import Derived.Test.YtphicjokogljcaaTally6
import Derived.Laws.OwnMore
import Derived.Deep.AppendLies
namespace Go.Proofs.Ytphicjokogljcaa
open Go.RowKit
set_option linter.unusedVariables false

def cval (c : Cnt) : List Value := [.int .i64 c.p, .int .i64 c.k, .int .i64 c.i, .int .i64 c.o]
theorem flat_length : ∀ L : List Cnt, (L.flatMap cval).length = L.length * 4
  | [] => rfl
  | c :: L => by simp only [List.flatMap_cons, List.length_append, flat_length L, List.length_cons]; simp [cval]; omega
theorem flat_at : ∀ (L : List Cnt) (i r : Nat) (c : Cnt), L[i]? = some c → r < 4 → (L.flatMap cval)[i * 4 + r]? = (cval c)[r]?
  | [], i, r, c, h, _ => by simp at h
  | d :: L, 0, r, c, h, hr => by
    simp at h
    subst h
    rw [List.flatMap_cons, Nat.zero_mul, Nat.zero_add, List.getElem?_append_left (by simpa [cval] using hr)]
  | d :: L, i + 1, r, c, h, hr => by
    have ih := flat_at L i r c (by simpa using h) hr
    have l4 : (cval d).length = 4 := rfl
    rw [List.flatMap_cons, List.getElem?_append_right (by rw [l4]; omega), l4, show (i + 1) * 4 + r - 4 = i * 4 + r by omega, ih]
/-- A slice of counts of one's own. -/
def OwnC (w : World) (B : Nat) (A : Option Addr) (c : Nat) (L : List Cnt) : Prop := w.ownsRow B 62 4 (.slice A L.length c) L.length (L.flatMap cval)
structure RefT (w : World) (B g : Nat) (N : Int) (A : Option Addr) (c : Nat) (L : List Cnt) : Prop where
  blk : Blk w g 60 #[.int .i64 N, .slice A L.length c]
  own : OwnC w B A c L
  base : B ≤ g
section
variable {w w' : World} {B g c : Nat} {N : Int} {A : Option Addr} {L : List Cnt}
theorem OwnC.keep (h : OwnC w B A c L) (hb : Below w.heap.size w w') : OwnC w' B A c L :=
  World.ownsRow.kept (row := none) h ⟨hb.os, hb.tape, hb.output, hb.size, fun k hk _ => hb.block k hk⟩ (by
    cases hv : (Value.slice A L.length c).ownBlock with
    | none => exact .inl rfl
    | some g => exact .inr (by simp))
theorem RefT.below (h : RefT w B g N A c L) (hb : Below w.heap.size w w') : RefT w' B g N A c L := ⟨(hb.block g h.blk.lt).trans h.blk, h.own.keep hb, h.base⟩
theorem OwnC.form (h : OwnC w B A c L) (hp : 0 < L.length) : ∃ r, A = some ⟨r, 0, none⟩ ∧ B ≤ r ∧ r < w.heap.size := by
  rcases h.2 with ⟨_, h0⟩ | ⟨r, cap, cur, hv, hb, hg, _⟩
  · omega
  · injection hv with h1
    exact ⟨r, h1, hb, (Array.getElem?_eq_some_iff.1 hg).1⟩
theorem OwnC.cell {r : Nat} (h : OwnC w B (some ⟨r, 0, none⟩) c L) (i k : Nat) (x : Cnt) (hx : L[i]? = some x) (hk : k < 4) : w.cell? ⟨r, i * 4 + k, none⟩ = (cval x)[k]? := by
  have hi : i < L.length := (List.getElem?_eq_some_iff.1 hx).1
  rw [World.ownsRow.cellAt h (i * 4 + k) (by omega), flat_at L i k x hx hk]
theorem OwnC.drawn (h : OwnC w B A c L) {n : Nat} : OwnC (w.drewN n) B A c L := h
end

theorem rnew_any (n : Int) (w : World) (h0 : 1 ≤ n) (h1 : n ≤ 16) :
    Calls Try.prog 15 #[.int .i64 n] w fun e w' => e = .returned (.tuple #[.pointer (some ⟨w.heap.size, 0, none⟩), .int .i64 0]) ∧ RefT w' w.heap.size w.heap.size n none 0 [] ∧ Below w.heap.size w w' := by
  have hm : RefT (w.alloc (.cells #[.int .i64 n, .slice none 0 0] 60)) w.heap.size w.heap.size n none 0 [] := ⟨heap_alloc_new w _, World.ownsRow_nil _ _ _ _, Nat.le_refl _⟩
  have HM := Lib.hid hm
  clear hm
  go_enter Try.func15, Try.ntmps15
  go_wp2
  go_ret2
  exact ⟨rfl, HM.out, (Below.refl _ _).alloc (Nat.le_refl _) _⟩
theorem rnew_bad (n : Int) (w : World) (h : n < 1 ∨ 16 < n) :
    Calls Try.prog 15 #[.int .i64 n] w fun e w' => e = .returned (.tuple #[.pointer none, .int .i64 2]) ∧ w = w' := by
  rcases h with h | h
  · go_enter Try.func15, Try.ntmps15
    go_wp2
    go_ret2
    exact ⟨rfl, rfl⟩
  · have h' : ¬ n < 1 := by omega
    go_enter Try.func15, Try.ntmps15
    go_wp2
    go_ret2
    exact ⟨rfl, rfl⟩
theorem rfew_any (n : Int) (w : World) : Calls Try.prog 32 #[.int .i64 n] w fun e w' => e = .returned (.bool (fewB n)) ∧ w = w' := by
  rcases Int.lt_or_le n 0 with h | h
  all_goals
    go_enter Try.func32, Try.ntmps32
    go_wp2
    go_ret
    exact ⟨congrArg (fun b => Ending.returned (.bool b)) (by unfold fewB; rw [Bool.eq_iff_iff]; simp; omega), rfl⟩
end Go.Proofs.Ytphicjokogljcaa
