/-
  The builtin copy onto a block of bytes of one's own.
-/
import Derived.Test.YthchjfkbaocoiaaRow
import Derived.Laws.CopyOwn
namespace Go.Proofs.Ythchjfkbaocoiaa
open Go.RowKit
set_option linter.unusedVariables false

def byt (L : List UInt8) : Array Value := (L.map bval).toArray
theorem splice_map (L ys : List UInt8) (off : Nat) : (splice (L.map bval) off (ys.map bval)).toArray = byt (splice L off ys) := by
  simp [splice, byt]
theorem bs_src {w : World} {sp : Option Addr} {ys : List UInt8} (hy : Bs w sp ys) (hp : 0 < (ys.map bval).length) : ∃ ad, sp = some ad ∧ ∀ j v, (ys.map bval)[j]? = some v → w.cell? (ad.add j) = some v := by
  obtain ⟨b, off, e, hc⟩ := hy.at_ (by simpa using hp)
  refine ⟨_, e, fun j v hv => ?_⟩
  rw [List.getElem?_map] at hv
  cases hj : ys[j]? with
  | none => rw [hj] at hv; cases hv
  | some y =>
    rw [hj] at hv
    simp at hv
    subst hv
    have hl := (List.getElem?_eq_some_iff.1 hj).1
    rw [add_lit', hc j hl]
    simp [bval, List.getD_eq_getElem?_getD, hj]
section
variable {ops : Array Oper} {rest : List Oper} {o : Oper} {a : Act} {Q : Exit → Act → World → Prop} {w : World}
theorem copy_n (hgd : o.guard = none) (d s : Operand) (dT sT : TypeId) (ho : o.op = .call { callee := .builtin .copy, args := #[d, s], argTypes := #[dT, sT] }) (hu : Try.prog.underlying dT = some (.slice 5))
    (g off dLen dCap : Nat) (hd : a.eval d = .slice (some ⟨g, off, none⟩) dLen dCap) (sp : Option Addr) (sLen sCap : Nat) (hs : a.eval s = .slice sp sLen sCap)
    (L : List UInt8) (hg : Blk w g 5 (byt L)) (ys : List UInt8) (hy : Bs w sp ys) (hyl : ys.length = sLen) (hn : sLen ≤ dLen) (hfit : off + sLen ≤ L.length)
    (h : ∀ w', Blk w' g 5 (byt (splice L off ys)) → Below g w w' → wpList Try.prog ops Q rest (a.put o.dst (.int .i64 (sLen : Nat))) w') : wpList Try.prog ops Q (o :: rest) a w := by
  subst hyl
  refine wpList_copy_splice hgd d s dT sT ho 5 hu (by kernel_rfl) (some ⟨g, off, none⟩) sp dLen dCap ys.length sCap hd hs g off (L.map bval) 5 hg (ys.map bval) (by rw [List.length_map]; exact (Nat.min_eq_left hn).symm) (fun hp => ⟨rfl, bs_src hy hp⟩) (by simpa using hfit) (bval_one ys) g w (Below.refl _ _) (Nat.le_refl _) ?_
  intro w' h1 h2
  have := h w' (by have := h1.out; rw [splice_map] at this; exact this) h2
  rw [List.length_map]
  exact this
theorem step_copy_n {K : Act → World → Prop} {E : Prop} (hgd : o.guard = none) (d s : Operand) (dT sT : TypeId) (ho : o.op = .call { callee := .builtin .copy, args := #[d, s], argTypes := #[dT, sT] }) (hu : Try.prog.underlying dT = some (.slice 5))
    (g off dLen dCap : Nat) (hd : a.eval d = .slice (some ⟨g, off, none⟩) dLen dCap) (sp : Option Addr) (sLen sCap : Nat) (hs : a.eval s = .slice sp sLen sCap)
    (L : List UInt8) (hg : Blk w g 5 (byt L)) (ys : List UInt8) (hy : Bs w sp ys) (hyl : ys.length = sLen) (hn : sLen ≤ dLen) (hfit : off + sLen ≤ L.length)
    (h : ∀ w', Blk w' g 5 (byt (splice L off ys)) → Below g w w' → K (a.put o.dst (.int .i64 (sLen : Nat))) w') : if Region.wanted o (yielded ops a.tmps) = true then Oper.wp Try.prog o a w K Q else E := by
  subst hyl
  refine step_copy_splice hgd d s dT sT ho 5 hu (by kernel_rfl) (some ⟨g, off, none⟩) sp dLen dCap ys.length sCap hd hs g off (L.map bval) 5 hg (ys.map bval) (by rw [List.length_map]; exact (Nat.min_eq_left hn).symm) (fun hp => ⟨rfl, bs_src hy hp⟩) (by simpa using hfit) (bval_one ys) g w (Below.refl _ _) (Nat.le_refl _) ?_
  intro w' h1 h2
  have := h w' (by have := h1.out; rw [splice_map] at this; exact this) h2
  rw [List.length_map]
  exact this
end
end Go.Proofs.Ythchjfkbaocoiaa
