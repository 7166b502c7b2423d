/-
  The walks of the law package's plain and same; two packets side by side.
-/
import Derived.Test.YtnphhikbdffmpaaIcmpWorks
import Derived.Test.YtnphhikbdffmpaaIcmp9
namespace Go.Proofs.Ytnphhikbdffmpaa
open Go.RowKit

set_option maxRecDepth 100000 in
theorem plain_any (id at_ life kind : Int) (wh mo : Bool) (f t : Int) (D : Option Addr) (n c : Nat) (w : World) :
    Calls Try.prog 18 #[.agg (packet id at_ life kind wh mo f t D n c)] w fun e w' => e = .returned (.agg (packet id at_ life kind wh mo f t D n c)) ∧ Below w.heap.size w w' := by
  go_enter Try.func18, Try.ntmps18
  go_wp2
  exact bodyPost_ret (v := .agg (packet id at_ life kind wh mo f t D n c)) (by simp [results, Try.results18, go_sem]) rfl ⟨rfl, by go_grown⟩

set_option maxHeartbeats 4000000 in
set_option maxRecDepth 100000 in
theorem samep_any (id at_ life kind : Int) (wh mo : Bool) (f t : Int) (X : Option Addr) (x : Nat) (Y : Option Addr) (y n : Nat) (xs : List UInt8) (hn : xs.length = n) (w : World) (hx : Bs w X xs) (hy : Bs w Y xs) :
    Calls Try.prog 19 #[.agg (packet id at_ life kind wh mo f t X n x), .agg (packet id at_ life kind wh mo f t Y n y)] w fun e w' => e = .returned (.bool true) ∧ Below w.heap.size w w' := by
  have hb : Below w.heap.size w ((w.alloc (.cells (packet id at_ life kind wh mo f t X n x) 45)).alloc (.cells (packet id at_ life kind wh mo f t Y n y) 45)) := ((Below.refl _ _).alloc (Nat.le_refl _) _).alloc (by simp) _
  have HX := Lib.hid (hx.below hb)
  have HY := Lib.hid (hy.below hb)
  have HN := Lib.hid hn
  have HB := Lib.hid hb
  clear hx hy hn hb
  go_enter Try.func19, Try.ntmps19
  go_wp2_with fail
  refine (same_n X xs n x Y xs n y _ HN.out HN.out HX.out HY.out).mono ?_
  rintro e w' ⟨rfl, rfl⟩
  rw [decide_eq_true rfl]
  go_wp2_with fail
  go_ret
  exact ⟨rfl, HB.out⟩

theorem field8 (id at_ life kind : Int) (wh mo : Bool) (f t : Int) (D : Option Addr) (n c : Nat) (W : World) : (Instr.field 41 (.agg (packet id at_ life kind wh mo f t D n c)) 8).run Try.prog W = .ok (.slice D n c) W := by kernel_rfl

/-- Two packets side by side, with the same bytes. -/
structure PQ (w0 : World) (gp gq : Nat) (P Q : Array Value) (X Y : Option Addr) (x y : Nat) (xs : List UInt8) (w : World) : Prop where
  p : Blk w gp 41 P
  q : Blk w gq 45 Q
  hx : Own w w0.heap.size X x xs
  hy : Own w w0.heap.size Y y xs
  bel : Below w0.heap.size w0 w
section
variable {w0 w w' : World} {gp gq : Nat} {P Q : Array Value} {X Y : Option Addr} {x y : Nat} {xs : List UInt8}
theorem PQ.below (h : PQ w0 gp gq P Q X Y x y xs w) (hb : Below w.heap.size w w') : PQ w0 gp gq P Q X Y x y xs w' :=
  ⟨h.p.below hb h.p.lt, h.q.below hb h.q.lt, h.hx.keep hb, h.hy.keep hb, h.bel.trans (hb.mono h.bel.size)⟩
theorem PQ.drew (h : PQ w0 gp gq P Q X Y x y xs w) : PQ w0 gp gq P Q X Y x y xs w.drew := h.below (Drawn.below ⟨1, rfl⟩ _)
end
end Go.Proofs.Ytnphhikbdffmpaa
