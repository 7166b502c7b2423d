/-
  The walks of tally.Peer, Kind, All, Clear.
-/
import Derived.Test.YtphicjokogljcaaTally4
namespace Go.Proofs.Ytphicjokogljcaa
open Go.RowKit
set_option linter.unusedVariables false

theorem peer_tells (w : World) (B : Nat) (peer : Int) (hc : w.cell? ⟨B, 0, none⟩ = some (.int .i64 peer)) : Tells (.func (.func 29) #[] #[.pointer (some ⟨B, 0, none⟩)]) (fun p _ => ((p : Int) == peer)) w := by
  refine ⟨_, _, rfl, fun _ _ => by kernel_rfl, fun p j hp hj => ?_⟩
  show Calls Try.prog 29 #[.int .i64 p, .int .i64 j, .pointer (some ⟨B, 0, none⟩)] w _
  go_enter Try.func29, Try.ntmps29
  go_wp2
  go_ret
  exact ⟨rfl, rfl⟩
theorem kind_tells (w : World) (B : Nat) (kind : Int) (hc : w.cell? ⟨B, 0, none⟩ = some (.int .i64 kind)) : Tells (.func (.func 30) #[] #[.pointer (some ⟨B, 0, none⟩)]) (fun _ j => ((j : Int) == kind)) w := by
  refine ⟨_, _, rfl, fun _ _ => by kernel_rfl, fun p j hp hj => ?_⟩
  show Calls Try.prog 30 #[.int .i64 p, .int .i64 j, .pointer (some ⟨B, 0, none⟩)] w _
  go_enter Try.func30, Try.ntmps30
  go_wp2
  go_ret
  exact ⟨rfl, rfl⟩
theorem all_tells (w : World) : Tells (.func (.func 31) #[] #[]) (fun _ _ => true) w := by
  refine ⟨_, _, rfl, fun _ _ => by kernel_rfl, fun p j hp hj => ?_⟩
  show Calls Try.prog 31 #[.int .i64 p, .int .i64 j] w _
  go_enter Try.func31, Try.ntmps31
  go_wp2
  go_ret
  exact ⟨rfl, rfl⟩

def Small (x : Nat × Nat) : Prop := x.1 < 9007199254740992 ∧ x.2 < 9007199254740992
theorem peer_any (g : Nat) (P peer : Int) (f : Counts) (w : World) (ht : TallyAt w g P f) (hs : Small (psum (picked (fun p _ => ((p : Int) == peer)) f) 128)) :
    Calls Try.prog 18 #[.pointer (some ⟨g, 0, none⟩), .int .i64 peer] w fun e w' => e = .returned (.tuple #[.int .i64 (psum (picked (fun p _ => ((p : Int) == peer)) f) 128).1, .int .i64 (psum (picked (fun p _ => ((p : Int) == peer)) f) 128).2]) ∧ Below w.heap.size w w' := by
  have hb := (Below.refl w.heap.size w).alloc (Nat.le_refl _) (.cells #[.int .i64 peer] 3)
  have ht' := ht.keep (hb.block g ht.lt)
  have hF := peer_tells (w.alloc (.cells #[.int .i64 peer] 3)) w.heap.size peer (by simp)
  have HT := Lib.hid ht'
  have HF := Lib.hid hF
  have HS := Lib.hid hs
  have HB := Lib.hid hb
  have hmf : ∀ (fn : Fn) (first cap : Array Value) (W : World), (Instr.makeFunc fn first cap).run Try.prog W = .ok (.func fn first cap) W := fun _ _ _ _ => rfl
  clear ht ht' hF hs hb
  go_enter Try.func18, Try.ntmps18
  go_wp2_with fail
  refine (over_any g P f _ _ _ HT.out HF.out HS.out).mono ?_
  rintro e w' ⟨rfl, rfl⟩
  go_wp2_with fail
  refine (parts_fl _ _ HS.out.1 HS.out.2 _).mono ?_
  rintro e w' ⟨rfl, rfl⟩
  go_wp2_with fail
  go_ret2
  exact ⟨rfl, HB.out⟩
theorem kind_any (g : Nat) (P kind : Int) (f : Counts) (w : World) (ht : TallyAt w g P f) (hs : Small (psum (picked (fun _ j => ((j : Int) == kind)) f) 128)) :
    Calls Try.prog 19 #[.pointer (some ⟨g, 0, none⟩), .int .i64 kind] w fun e w' => e = .returned (.tuple #[.int .i64 (psum (picked (fun _ j => ((j : Int) == kind)) f) 128).1, .int .i64 (psum (picked (fun _ j => ((j : Int) == kind)) f) 128).2]) ∧ Below w.heap.size w w' := by
  have hb := (Below.refl w.heap.size w).alloc (Nat.le_refl _) (.cells #[.int .i64 kind] 3)
  have ht' := ht.keep (hb.block g ht.lt)
  have hF := kind_tells (w.alloc (.cells #[.int .i64 kind] 3)) w.heap.size kind (by simp)
  have HT := Lib.hid ht'
  have HF := Lib.hid hF
  have HS := Lib.hid hs
  have HB := Lib.hid hb
  have hmf : ∀ (fn : Fn) (first cap : Array Value) (W : World), (Instr.makeFunc fn first cap).run Try.prog W = .ok (.func fn first cap) W := fun _ _ _ _ => rfl
  clear ht ht' hF hs hb
  go_enter Try.func19, Try.ntmps19
  go_wp2_with fail
  refine (over_any g P f _ _ _ HT.out HF.out HS.out).mono ?_
  rintro e w' ⟨rfl, rfl⟩
  go_wp2_with fail
  refine (parts_fl _ _ HS.out.1 HS.out.2 _).mono ?_
  rintro e w' ⟨rfl, rfl⟩
  go_wp2_with fail
  go_ret2
  exact ⟨rfl, HB.out⟩
theorem all_any (g : Nat) (P : Int) (f : Counts) (w : World) (ht : TallyAt w g P f) (hs : Small (psum (picked (fun _ _ => true) f) 128)) :
    Calls Try.prog 20 #[.pointer (some ⟨g, 0, none⟩)] w fun e w' => e = .returned (cx (psum (picked (fun _ _ => true) f) 128)) ∧ w = w' := by
  have hF := all_tells w
  have HT := Lib.hid ht
  have HF := Lib.hid hF
  have HS := Lib.hid hs
  clear ht hF hs
  go_enter Try.func20, Try.ntmps20
  go_wp2_with fail
  refine (over_any g P f _ _ _ HT.out HF.out HS.out).mono ?_
  rintro e w' ⟨rfl, rfl⟩
  go_wp2_with fail
  go_ret
  exact ⟨rfl, rfl⟩
end Go.Proofs.Ytphicjokogljcaa
