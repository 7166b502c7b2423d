/-
  append onto a slice that is full, whatever its block.
-/
import Derived.Test.YtpdkoooecnmjjaaRow
import Derived.ArgAppend
import Derived.Laws.OwnMore
namespace Go.Proofs.Ytpdkoooecnmjjaa
open Go.RowKit

theorem app_full (w : World) (ty : TypeId) (g n : Nat) (xs : List UInt8) (hx : Bs w (some ⟨g, 0, none⟩) xs) (hn : xs.length = n) (D : Option Addr) (d : Nat) (ys : List UInt8) (m : Nat) (hm : ys.length = m) (hs : Sl w D d ys) (hl : n + m ≤ 140737488355328) :
    ∃ X x w', (Builtin.append_ #[31, 31] ty #[.slice (some ⟨g, 0, none⟩) n n, .slice D m d]).run Try.prog w = .ok (.slice X (n + m) x) w' ∧ Sl w' X x (xs ++ ys) ∧ Below w.heap.size w w' := by
  subst hn hm
  obtain ⟨i0, hi, hz0, hz1, hz2⟩ := info_parts info_u8
  rcases D with _ | ad
  · have hc := hs.2.2.2 rfl
    have hb : ys = [] := List.length_eq_zero_iff.1 (by have := hs.2.1; omega)
    subst hc hb
    refine ⟨some ⟨g, 0, none⟩, xs.length, w, ?_, ?_, Below.refl _ _⟩
    · simp [Builtin.append_, run_underlying Try.underlying31, sizeOf, typeInfo, hi, Builtin.lenOf, Builtin.firstCells, storeCells]
    · rw [List.append_nil]
      exact ⟨hx, Nat.le_refl _, by omega, fun h => by cases h⟩
  · by_cases h0 : ys = []
    · subst h0
      refine ⟨some ⟨g, 0, none⟩, xs.length, w, ?_, ?_, Below.refl _ _⟩
      · have := run_append_room_cells (P := Try.prog) w 31 ty 5 i0 Try.underlying31 hi g 0 xs.length xs.length ad 0 d [] (by simp) (by simp) (by simp) (by omega) (by simp) (by simp)
        simpa [World.setCells] using this
      · rw [List.append_nil]
        exact ⟨hx, Nat.le_refl _, by omega, fun h => by cases h⟩
    · have hp : 0 < ys.length := List.length_pos_iff.2 h0
      have holds : ∀ j u, (xs.map bval)[j]? = some u → w.cell? ((⟨g, 0, none⟩ : Addr).add j) = some u := by
        intro j u hu
        have hj : j < xs.length := by
          rcases Nat.lt_or_ge j xs.length with h | h
          · exact h
          · rw [List.getElem?_eq_none (by simpa using h)] at hu; cases hu
        obtain ⟨b, off, hA, hc⟩ := hx.at_ (by omega)
        injection hA with hA
        injection hA with hA1 hA2
        subst hA1 hA2
        rw [add_lit', hc j hj]
        simp [List.getElem?_eq_getElem hj] at hu
        simp [← hu, bval, List.getD_eq_getElem?_getD, List.getElem?_eq_getElem hj]
      obtain ⟨v', w', hr, ho, hg⟩ := run_append_arg_grows (P := Try.prog) w 31 ty 5 i0 (.int .u8 0) 1 1 Try.underlying31 hi hz0 hz1 hz2 rfl (by decide) ⟨g, 0, none⟩ xs.length xs.length (xs.map bval) (by simp) holds ad ys.length d (ys.map bval) (by simp) hs.news (by omega) (by simp only [maxLen]; omega) (by omega)
      have hex : ∃ A2 c2, v' = .slice A2 (xs.length + ys.length) c2 := by
        rcases ho.2 with ⟨hv, h0'⟩ | ⟨g', cap, cur, hv, _⟩
        · omega
        · exact ⟨_, cap, hv⟩
      obtain ⟨A2, c2, rfl⟩ := hex
      have ho' : Own w' w.heap.size A2 c2 (xs ++ ys) := by
        unfold Own
        rw [List.map_append, List.length_append]
        exact ho
      exact ⟨A2, c2, w', hr, ho'.sl, below_grown0 (Below.refl _ _) hg (Nat.le_refl _)⟩
/-- .. in a region that draws its order. -/
theorem step_app_full {ops : Array Oper} {o : Oper} {a : Act} {K : Act → World → Prop} {Q : Exit → Act → World → Prop} {E : Prop} (w : World) (hgd : o.guard = none) (s x : Operand)
    (ho : o.op = .call { callee := .builtin .append, args := #[s, x], argTypes := #[31, 31] })
    (g n : Nat) (xs : List UInt8) (hx : Bs w (some ⟨g, 0, none⟩) xs) (hn : xs.length = n) (hs : a.eval s = .slice (some ⟨g, 0, none⟩) n n) (D : Option Addr) (d : Nat) (ys : List UInt8) (m : Nat) (hm : ys.length = m) (hxx : a.eval x = .slice D m d) (hsl : Sl w D d ys) (hl : n + m ≤ 140737488355328)
    (h : ∀ X c w', Sl w' X c (xs ++ ys) → Below w.heap.size w w' → K (a.put o.dst (.slice X (n + m) c)) w') :
    if Region.wanted o (yielded ops a.tmps) = true then Oper.wp Try.prog o a w K Q else E := by
  have hw : Region.wanted o (yielded ops a.tmps) = true := by simp [Region.wanted, hgd]
  rw [if_pos hw]
  obtain ⟨X, c, w', hr, h1, h2⟩ := app_full w o.type g n xs hx hn D d ys m hm hsl hl
  unfold Oper.wp execOp
  simp only [ho, resolve, invoke, builtin, Sem.run_bind, Sem.run_pure, Result.andThen_ok, List.map_toArray, List.map_cons, List.map_nil, hs, hxx, hr]
  exact h X c w' h1 h2
end Go.Proofs.Ytpdkoooecnmjjaa
