/-
  append in a region that draws its order, the source nil or not (cut out of XEthH).
-/
import Derived.Test.YtpnfdnnfhmecjaaRow
import Derived.Laws.AppendOwnNone
namespace Go.Proofs.Ytpnfdnnfhmecjaa
open Go.RowKit

theorem sl_one (w : World) (x : UInt8) : Sl (w.alloc (.cells #[.int .u8 (x.toNat : Int)] 5)) (some ⟨w.heap.size, 0, none⟩) 1 [x] := ⟨bs_lit w [x], by simp, by omega, by simp⟩

/-- append in a region that draws its order, the source nil or not. -/
theorem step_appn {ops : Array Oper} {o : Oper} {a : Act} {K : Act → World → Prop} {Q : Exit → Act → World → Prop} {E : Prop} (w : World) (hgd : o.guard = none) (s x : Operand)
    (ho : o.op = .call { callee := .builtin .append, args := #[s, x], argTypes := #[24, 24] })
    (B : Nat) (A : Option Addr) (c : Nat) (xs : List UInt8) (n : Nat) (hn : xs.length = n) (hs : a.eval s = .slice A n c) (hown : Own w B A c xs)
    (A' : Option Addr) (c' : Nat) (ys : List UInt8) (m : Nat) (hm : ys.length = m) (hx : a.eval x = .slice A' m c') (hsl : Sl w A' c' ys)
    (hl : xs.length + ys.length ≤ 140737488355328) (hB : B ≤ w.heap.size)
    (h : ∀ A2 c2 w', Own w' B A2 c2 (xs ++ ys) → w.grownBy w' (Value.slice A xs.length c).ownBlock → K (a.put o.dst (.slice A2 (n + m) c2)) w') :
    if Region.wanted o (yielded ops a.tmps) = true then Oper.wp Try.prog o a w K Q else E := by
  rcases A' with _ | ad
  · have hc := hsl.2.2.2 rfl
    have hb : ys = [] := List.length_eq_zero_iff.1 (by have := hsl.2.1; omega)
    subst hc hb
    subst hm hn
    obtain ⟨i0, hi, hz0, hz1, hz2⟩ := info_parts info_u8
    have hr := run_append_owned_none (P := Try.prog) w B 24 o.type 5 i0 1 Try.underlying24 hi _ _ _ hown
    have hw : Region.wanted o (yielded ops a.tmps) = true := by simp [Region.wanted, hgd]
    rw [if_pos hw]
    have hx' : a.eval x = .slice none 0 0 := hx
    unfold Oper.wp execOp
    simp only [ho, resolve, invoke, builtin, Sem.run_bind, Sem.run_pure, Result.andThen_ok, List.map_toArray, List.map_cons, List.map_nil, hs, hx', hr]
    exact h A c w (by simpa using hown) (World.grownBy.refl w _)
  · exact step_app w hgd s x ho B A c xs n hn hs hown ad c' ys m hm hx hsl hl hB h

theorem sl_two (w : World) (x y : Int) (x0 : 0 ≤ x) (x1 : x < 256) (y0 : 0 ≤ y) (y1 : y < 256) : Sl (w.alloc (.cells #[.int .u8 x, .int .u8 y] 5)) (some ⟨w.heap.size, 0, none⟩) 2 [u8 x, u8 y] := by
  have := bs_lit w [u8 x, u8 y]
  simp only [List.map_cons, List.map_nil, bval, u8_toNat x x0 x1, u8_toNat y y0 y1] at this
  exact ⟨this, by simp, by omega, by simp⟩
theorem Blk.cell2 {w : World} {g : Nat} {t : TypeId} {cs : Array Value} {i : Nat} {v : Value} (h : Blk w g t cs) (e : cs[i]? = some v) : w.cell? ⟨g, i, none⟩ = some v := (h.cell i).trans e
end Go.Proofs.Ytpnfdnnfhmecjaa
