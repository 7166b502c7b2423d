/-
  The walk of base.SameBytes.
-/
import Derived.Test.YtpnfdnnfhmecjaaBytes
import Derived.Laws.IdiomStrings
namespace Go.Proofs.Ytpnfdnnfhmecjaa
open Go.RowKit

theorem Bs.str {w : World} {A : Option Addr} {bs : List UInt8} (h : Bs w A bs) (c : Nat) :
    (convert 24 9 (.slice A bs.length c)).run Try.prog w = .ok (.string ⟨bs.toArray⟩) w := by
  rcases A with _ | a
  · rcases h with rfl | ⟨b, off, hA, _⟩
    · rw [run_convert_bytes_string w _ _ 5 none _ c Try.underlying24 Try.underlying5 Try.underlying9]
      simp [Conv.bytesToString]
      rfl
    · cases hA
  · refine run_convert_bytes_back w _ _ 5 a c bs Try.underlying24 Try.underlying5 Try.underlying9 (fun j hj => ?_)
    obtain ⟨b, off, hA, hc⟩ := h.at_ (by omega)
    injection hA with hA
    subst hA
    have e : (⟨b, off, none⟩ : Addr).add j = ⟨b, off + j, none⟩ := by
      unfold Addr.add
      split <;> simp_all
    rw [e, hc j hj]
    simp [List.getD_eq_getElem?_getD, List.getElem?_eq_getElem hj]

theorem str_beq (a b : List UInt8) : (a == b) = decide (a = b) := by rw [Bool.eq_iff_iff]; simp

theorem same_any (A : Option Addr) (xs : List UInt8) (c : Nat) (B : Option Addr) (ys : List UInt8) (d : Nat) (w : World) (hx : Bs w A xs) (hy : Bs w B ys) :
    Calls Try.prog 12 #[.slice A xs.length c, .slice B ys.length d] w fun e w' => e = .returned (.bool (decide (xs = ys))) ∧ w = w' := by
  have e1 := hx.str c
  have e2 := hy.str d
  go_enter Try.func12, Try.ntmps12
  go_wp2
  go_ret
  exact ⟨congrArg (fun b => Ending.returned (.bool b)) (by rw [Bool.eq_iff_iff]; simp), rfl⟩
end Go.Proofs.Ytpnfdnnfhmecjaa
