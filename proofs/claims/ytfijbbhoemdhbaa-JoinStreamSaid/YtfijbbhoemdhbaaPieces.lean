/-
  Slices of pieces and of numbers that came in.
-/
import Derived.Test.YtfijbbhoemdhbaaActs
namespace Go.Proofs.Ytfijbbhoemdhbaa
open Go.Joins Go.ChangeShapes Go.WideShapes Go.RowKit Go.Deep

def Pieces (w : World) (a : Option Addr) (len : Nat) : Prop := len = 0 ∨ ∃ b off, a = some ⟨b, off, none⟩ ∧ ∀ i, i < len → ∃ x y : Int, w.cell? ⟨b, off + i * 2, none⟩ = some (.int .i64 x) ∧ w.cell? ⟨b, off + i * 2 + 1, none⟩ = some (.int .i64 y)
def Nums (w : World) (a : Option Addr) (len : Nat) : Prop := len = 0 ∨ ∃ b off, a = some ⟨b, off, none⟩ ∧ ∀ i, i < len → ∃ x : Int, w.cell? ⟨b, off + i, none⟩ = some (.int .i64 x)

section
variable {H : Type} {enc : TypeId × Value → H} {w : World} {base : Nat} {held : Bool}
theorem pieces_open {r : Reach} {b0 : Nat} {v : Value} {d : DataW H} {p : List MemPlace} (hv : Value.okWide Try.prog w r b0 24 v) (h : DataW.Trod enc Try.prog w base (fun _ => true) held 24 v d p) :
    ∃ a len cap, v = .slice a len cap ∧ Pieces w a len ∧ len ≤ 9223372036854775807 := by
  obtain ⟨a, len, cap, rfl⟩ := okWide_slice Try.underlying24 hv
  refine ⟨a, len, cap, rfl, ?_⟩
  obtain ⟨fuel, hf⟩ := h
  rcases Deep.open_slice Try.underlying24 hf with ⟨hcs, _⟩ | ⟨x, l, c, m, n, D, Pl, hcs, _, hl, hm, hmm, _, hi⟩
  · simp [Value.cells] at hcs
    exact ⟨.inl hcs.2.1, by omega⟩
  · simp [Value.cells] at hcs
    obtain ⟨rfl, rfl, rfl⟩ := hcs
    have hml : len ≤ m := by rw [hmm]; split <;> omega
    refine ⟨?_, by simp only [maxLen] at hm; omega⟩
    rcases Nat.eq_zero_or_pos len with h0 | h0
    · exact .inl h0
    · right
      obtain ⟨b, off, spot⟩ := x
      have e4 : Try.prog.cellsOf 33 = 2 := by kernel_rfl
      rw [e4] at hi
      have hsp : spot = none := by
        obtain ⟨cs', hc, ht⟩ := hi 0 (by omega)
        obtain ⟨_, hcl, hat⟩ := World.cells?_some hc
        have := hat 0 (by omega)
        rw [List.getElem?_eq_getElem (by omega)] at this
        have := World.cell?_spot this
        simpa [Addr.add] using this
      subst hsp
      refine ⟨b, off, rfl, fun i hil => ?_⟩
      obtain ⟨cs', hc, ht⟩ := hi i (by omega)
      obtain ⟨_, hcl, hat⟩ := World.cells?_some hc
      obtain ⟨ys, n', _, _, _, hyl, hg⟩ := DataW.trod_struct Try.underlying33 ht
      have g0 := hg 0 _ rfl
      have g1 := hg 1 _ rfl
      match cs', hcl, ys, hyl with
      | [c0, c1], _, [y0, y1], _ =>
        have a0 := hat 0 (by omega)
        have a1 := hat 1 (by omega)
        simp only [add_lit'] at a0 a1
        obtain ⟨z0, q0, _, w0⟩ := DataW.trod_int (k := .i64) Try.underlying3 g0
        obtain ⟨z1, q1, _, w1⟩ := DataW.trod_int (k := .i64) Try.underlying3 g1
        have p0 : [c0] = [.int .i64 z0] := q0
        have p1 : [c1] = [.int .i64 z1] := q1
        simp only [List.cons.injEq, and_true] at p0 p1
        subst p0 p1
        exact ⟨z0, z1, a0, a1⟩
theorem nums_open {r : Reach} {b0 : Nat} {v : Value} {d : DataW H} {p : List MemPlace} (hv : Value.okWide Try.prog w r b0 25 v) (h : DataW.Trod enc Try.prog w base (fun _ => true) held 25 v d p) :
    ∃ a len cap, v = .slice a len cap ∧ Nums w a len ∧ len ≤ 9223372036854775807 := by
  obtain ⟨a, len, cap, rfl⟩ := okWide_slice Try.underlying25 hv
  refine ⟨a, len, cap, rfl, ?_⟩
  obtain ⟨fuel, hf⟩ := h
  rcases open_ints Try.underlying25 Try.underlying3 (by kernel_rfl) hf with ⟨hcs, _⟩ | ⟨x, l, c, zs, hcs, _, hl, hm, hz, _, hcell, hwz⟩
  · simp [Value.cells] at hcs
    exact ⟨.inl hcs.2.1, by omega⟩
  · simp [Value.cells] at hcs
    obtain ⟨rfl, rfl, rfl⟩ := hcs
    refine ⟨?_, by simp only [maxLen] at hm; omega⟩
    rcases Nat.eq_zero_or_pos len with h0 | h0
    · exact .inl h0
    · right
      have hz' : zs.length = cap := by simpa using hz
      obtain ⟨b, off, spot⟩ := x
      have hsp : spot = none := by
        have := World.cell?_spot (hcell 0 (by omega))
        simpa [Addr.add] using this
      subst hsp
      refine ⟨b, off, rfl, fun i hil => ⟨zs.getD i 0, ?_⟩⟩
      have := hcell i (by omega)
      rw [add_lit'] at this
      exact this
end

/-- append onto bytes of one's own; where the row lies. -/
theorem app_got {ops : Array Oper} {rest : List Oper} {o : Oper} {a : Act} {Q : Exit → Act → World → Prop} (w : World) (hgd : o.guard = none) (s x : Operand)
    (ho : o.op = .call { callee := .builtin .append, args := #[s, x], argTypes := #[23, 23] })
    (B : Nat) (A : Option Addr) (c : Nat) (xs : List UInt8) (n : Nat) (hn : xs.length = n) (hs : a.eval s = .slice A n c) (hown : Own w B A c xs)
    (A' : Option Addr) (c' : Nat) (ys : List UInt8) (m : Nat) (hm : ys.length = m) (hx : a.eval x = .slice A' m c') (hsl : Sl w A' c' ys)
    (hl : xs.length + ys.length ≤ 140737488355328) (hB : B ≤ w.heap.size)
    (h : ∀ A2 c2 w', Own w' B A2 c2 (xs ++ ys) → w.grownBy w' (Value.slice A xs.length c).ownBlock → ((Value.slice A2 (xs ++ ys).length c2).ownBlock = (Value.slice A xs.length c).ownBlock ∨ (Value.slice A2 (xs ++ ys).length c2).ownBlock = some w.heap.size) → wpList Try.prog ops Q rest (a.put o.dst (.slice A2 (n + m) c2)) w') : wpList Try.prog ops Q (o :: rest) a w := by
  subst hn hm
  obtain ⟨i0, hi, hz0, hz1, hz2⟩ := info_parts info_u8
  rcases A' with _ | ad
  · have hc := hsl.2.2.2 rfl
    have hb : ys = [] := List.length_eq_zero_iff.1 (by have := hsl.2.1; omega)
    subst hc hb
    refine wpList_append_own_none hgd s x _ ho B _ i0 1 Try.underlying23 hi _ _ _ hs hown hx ?_
    exact h A c w (by simpa using hown) (World.grownBy.refl w _) (.inl (by simp))
  · refine wpList_plain hgd fun K hK => ?_
    obtain ⟨v', w', hr, h2, h3, _, h5⟩ := run_append_own_at (P := Try.prog) w B 23 o.type 5 i0 (.int .u8 0) 1 1 Try.underlying23 hi hz0 hz1 hz2 rfl (by decide) _ _ _ hown ad ys.length c' (ys.map bval) (by simp) hsl.news (bval_one ys) (by simp only [maxLen]; omega) (by omega) hB
    have hex : ∃ A2 c2, v' = .slice A2 (xs.length + ys.length) c2 := by
      rcases h2.2 with ⟨hv, h0⟩ | ⟨g, cap, cur, hv, _⟩
      · exact ⟨none, 0, by rw [hv, h0]⟩
      · exact ⟨_, cap, hv⟩
    obtain ⟨A2, c2, rfl⟩ := hex
    unfold Oper.wp execOp
    simp only [ho, resolve, invoke, builtin, Sem.run_bind, Sem.run_pure, Result.andThen_ok, List.map_toArray, List.map_cons, List.map_nil, hs, hx, hr]
    refine hK _ _ (h A2 c2 w' ?_ h3 (by rw [List.length_append]; exact h5))
    unfold Own
    rw [List.map_append, List.length_append]
    exact h2
end Go.Proofs.Ytfijbbhoemdhbaa
