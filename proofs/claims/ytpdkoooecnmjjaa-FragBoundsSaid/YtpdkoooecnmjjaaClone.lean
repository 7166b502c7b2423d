/-
  The walk of slices.Clone on bytes.
-/
import Derived.Test.YtpdkoooecnmjjaaBytes
namespace Go.Proofs.Ytpdkoooecnmjjaa
open Go.RowKit

set_option maxRecDepth 100000 in
theorem clone_any (A : Option Addr) (bs : List UInt8) (c : Nat) (w : World) (hs : Sl w A c bs) (hl : bs.length ≤ 140737488355328) :
    Calls Try.prog 15 #[.slice A bs.length c] w (Made bs w) := by
  rcases A with _ | a
  · have hc := hs.2.2.2 rfl
    have hb : bs = [] := List.length_eq_zero_iff.1 (by have := hs.2.1; omega)
    subst hc hb
    have hn := fun (W : World) => Lib.run_eql_slice_nil (P := Try.prog) W 31 5 none 0 0 0 0 Try.underlying31
    go_enter Try.func15, Try.ntmps15
    go_wp2
    go_ret
    exact ⟨none, 0, rfl, World.ownsRow_nil _ _ _ _, Below.refl _ _⟩
  · have hn := fun (W : World) => Lib.run_eql_slice_nil (P := Try.prog) W 31 5 (some a) bs.length c 0 0 Try.underlying31
    have hs1 := hs.keep (w' := w.alloc (.cells #[] 5)) (keep_below ((Below.refl _ _).alloc (Nat.le_refl _) _))
    go_enter Try.func15, Try.ntmps15
    go_wp2_with (at_builtin; refine app_bytes _ rfl _ _ rfl w.heap.size _ 0 [] rfl (own_nil_made w _ (Nat.le_refl _)) (some a) c bs rfl hs1 (by simpa using hl) (by simp) ?_; intro A2 c2 w1 hown hg)
    go_ret
    refine ⟨A2, c2, rfl, by simpa using hown, ((Below.refl _ _).alloc (Nat.le_refl _) _).grown hg (by simp) ?_⟩
    intro k hk
    simp [Value.ownBlock] at hk
    omega
theorem clone_n (A : Option Addr) (bs : List UInt8) (n c : Nat) (w : World) (hn : bs.length = n) (hs : Sl w A c bs) (hl : bs.length ≤ 140737488355328) :
    Calls Try.prog 15 #[.slice A n c] w (Made bs w) := by
  subst hn
  exact clone_any A bs c w hs hl
end Go.Proofs.Ytpdkoooecnmjjaa
