/-
  The walks of join.New and Read.
-/
import Derived.Test.YtfijbbhoemdhbaaJoin2
import Derived.Test.YtfijbbhoemdhbaaClone
namespace Go.Proofs.Ytfijbbhoemdhbaa
open Go.RowKit

def newS (next : Int) (room : Nat) : JS := { next := next, first := 0, ring := List.replicate room 0, has := List.replicate room false, held := 0, ready := [] }
theorem new_inv (next : Int) (room : Nat) (h0 : 0 ≤ next) (h1 : next < 4294967296) (h2 : 1 ≤ room) (h3 : room ≤ 65535) : Inv (newS next room) := by
  refine ⟨h0, h1, by simp [newS]; omega, by simp [newS], by simpa [newS] using h3, ?_, by simp [newS], ?_⟩
  · show (0 : Int) = ((List.count true (List.replicate room false) : Nat) : Int)
    rw [List.count_replicate]
    rfl
  · intro o _ ho
    have ho' : o < room := by simpa [newS] using ho
    unfold at_
    have : (newS next room).has.getD (plc (newS next room) o) false = false := by
      show (List.replicate room false).getD _ false = false
      rw [List.getD_eq_getElem?_getD, List.getElem?_replicate]
      split <;> rfl
    rw [this]
    rfl

theorem made_u8 (n : Nat) : madeCells (Value.cells (.int .u8 0)) (n * 1) = octets (List.replicate n 0) := by
  apply Array.toList_inj.1
  show (madeCells #[Value.int .u8 0] (n * 1)).toList = _
  rw [toList_madeCells_one, Nat.mul_one]
  unfold octets
  rw [List.map_replicate]
  rfl
theorem made_bool (n : Nat) : madeCells (Value.cells (.bool false)) (n * 1) = bools (List.replicate n false) := by
  apply Array.toList_inj.1
  show (madeCells #[Value.bool false] (n * 1)).toList = _
  rw [toList_madeCells_one, Nat.mul_one]
  unfold bools
  rw [List.map_replicate]
theorem make_u8 (n : Nat) (h : n ≤ 70000) (W : World) : (Instr.makeSlice 23 (.int .i64 (n : Int)) (.int .i64 (n : Int))).run Try.prog W = .ok (.slice (some ⟨W.heap.size, 0, none⟩) n n) (W.alloc (.cells (octets (List.replicate n 0)) 5)) := by
  obtain ⟨i0, hi, hz0, hz1, hz2⟩ := info_parts info_u8
  have := run_make (P := Try.prog) W 23 5 i0 (.int .u8 0) Try.underlying23 hi hz0 .i64 .i64 n n (by omega) (by omega) (by rw [hz2]; omega) (by omega)
  rw [Int.toNat_natCast, hz1, made_u8] at this
  exact this
theorem make_bool (n : Nat) (h : n ≤ 70000) (W : World) : (Instr.makeSlice 53 (.int .i64 (n : Int)) (.int .i64 (n : Int))).run Try.prog W = .ok (.slice (some ⟨W.heap.size, 0, none⟩) n n) (W.alloc (.cells (bools (List.replicate n false)) 4)) := by
  obtain ⟨i0, hi, hz0, hz1, hz2⟩ := info_parts info_bool
  have := run_make (P := Try.prog) W 53 4 i0 (.bool false) Try.underlying53 hi hz0 .i64 .i64 n n (by omega) (by omega) (by rw [hz2]; omega) (by omega)
  rw [Int.toNat_natCast, hz1, made_bool] at this
  exact this

def NewJ (next : Int) (room : Nat) (w : World) (e : Ending) (w' : World) : Prop :=
  ∃ g R T, e = .returned (.tuple #[.pointer (some ⟨g, 0, none⟩), .int .i64 0]) ∧ JAt w' g R T none 0 (newS next room) ∧ Below w.heap.size w w' ∧ w.heap.size ≤ g ∧ w.heap.size ≤ R ∧ w.heap.size ≤ T

theorem blk_new (w : World) (t : TypeId) (cs : Array Value) : Blk (w.alloc (.cells cs t)) w.heap.size t cs := heap_alloc_new w _
theorem blk_old {w : World} {g : Nat} {t : TypeId} {cs : Array Value} (h : Blk w g t cs) (o : Obj) : Blk (w.alloc o) g t cs := (Below.heap_alloc w o g h.lt).trans h

theorem newj_a (next : Int) (room : Nat) (w : World) (hi : Inv (newS next room)) :
    NewJ next room w (.returned (.tuple #[.pointer (some ⟨w.heap.size + 2, 0, none⟩), .int .i64 0]))
      (((w.alloc (.cells (octets (List.replicate room 0)) 5)).alloc (.cells (bools (List.replicate room false)) 4)).alloc (.cells #[.int .u32 next, .int .i64 0, .slice (some ⟨w.heap.size, 0, none⟩) room room, .slice (some ⟨w.heap.size + 1, 0, none⟩) room room, .int .i64 0, .slice none 0 0] 55)).drew := by
  have b1 := blk_new w 5 (octets (List.replicate room 0))
  have b2 := blk_new (w.alloc (.cells (octets (List.replicate room 0)) 5)) 4 (bools (List.replicate room false))
  have b3 := blk_new ((w.alloc (.cells (octets (List.replicate room 0)) 5)).alloc (.cells (bools (List.replicate room false)) 4)) 55 #[.int .u32 next, .int .i64 0, .slice (some ⟨w.heap.size, 0, none⟩) room room, .slice (some ⟨w.heap.size + 1, 0, none⟩) room room, .int .i64 0, .slice none 0 0]
  have s1 : (w.alloc (.cells (octets (List.replicate room 0)) 5)).heap.size = w.heap.size + 1 := by simp
  have s2 : ((w.alloc (.cells (octets (List.replicate room 0)) 5)).alloc (.cells (bools (List.replicate room false)) 4)).heap.size = w.heap.size + 2 := by simp
  rw [s1] at b2
  rw [s2] at b3
  refine ⟨w.heap.size + 2, w.heap.size, w.heap.size + 1, rfl, ⟨⟨?_, blk_old (blk_old b1 _) _, blk_old b2 _, World.ownsRow_nil _ _ _ _, by simp [Value.ownBlock]⟩, hi⟩, ?_, by omega, by omega, by omega⟩
  · have e : (newS next room).ring.length = room := by simp [newS]
    rw [e]
    exact b3
  · exact ((((Below.refl _ _).alloc (Nat.le_refl _) _).alloc (by simp) _).alloc (by simp; omega) _).drew
theorem newj_b (next : Int) (room : Nat) (w : World) (hi : Inv (newS next room)) :
    NewJ next room w (.returned (.tuple #[.pointer (some ⟨w.heap.size + 2, 0, none⟩), .int .i64 0]))
      (((w.alloc (.cells (bools (List.replicate room false)) 4)).alloc (.cells (octets (List.replicate room 0)) 5)).alloc (.cells #[.int .u32 next, .int .i64 0, .slice (some ⟨w.heap.size + 1, 0, none⟩) room room, .slice (some ⟨w.heap.size, 0, none⟩) room room, .int .i64 0, .slice none 0 0] 55)).drew := by
  have b1 := blk_new w 4 (bools (List.replicate room false))
  have b2 := blk_new (w.alloc (.cells (bools (List.replicate room false)) 4)) 5 (octets (List.replicate room 0))
  have b3 := blk_new ((w.alloc (.cells (bools (List.replicate room false)) 4)).alloc (.cells (octets (List.replicate room 0)) 5)) 55 #[.int .u32 next, .int .i64 0, .slice (some ⟨w.heap.size + 1, 0, none⟩) room room, .slice (some ⟨w.heap.size, 0, none⟩) room room, .int .i64 0, .slice none 0 0]
  have s1 : (w.alloc (.cells (bools (List.replicate room false)) 4)).heap.size = w.heap.size + 1 := by simp
  have s2 : ((w.alloc (.cells (bools (List.replicate room false)) 4)).alloc (.cells (octets (List.replicate room 0)) 5)).heap.size = w.heap.size + 2 := by simp
  rw [s1] at b2
  rw [s2] at b3
  refine ⟨w.heap.size + 2, w.heap.size + 1, w.heap.size, rfl, ⟨⟨?_, blk_old b2 _, blk_old (blk_old b1 _) _, World.ownsRow_nil _ _ _ _, by simp [Value.ownBlock]⟩, hi⟩, ?_, by omega, by omega, by omega⟩
  · have e : (newS next room).ring.length = room := by simp [newS]
    rw [e]
    exact b3
  · exact ((((Below.refl _ _).alloc (Nat.le_refl _) _).alloc (by simp) _).alloc (by simp; omega) _).drew

set_option maxHeartbeats 1000000 in
set_option maxRecDepth 100000 in
theorem jnew_any (next : Int) (room : Nat) (w : World) (h0 : 0 ≤ next) (h1 : next < 4294967296) (h2 : 1 ≤ room) (h3 : room ≤ 65535) :
    Calls Try.prog 9 #[.int .u32 next, .int .i64 room] w (NewJ next room w) := by
  have hi := Lib.hid (new_inv next room h0 h1 h2 h3)
  have m1 := make_u8 room (by omega)
  have m2 := make_bool room (by omega)
  have h3' : room ≤ 70000 := by omega
  have t1 : (room : Int) ≤ 65535 := by omega
  clear h3
  go_enter Try.func9, Try.ntmps9
  go_wp2_with fail
  go_region
  all_goals
    go_wp2_with fail
    go_ret2
    first
      | exact newj_a next room w hi.out
      | exact newj_b next room w hi.out

theorem jnew_bad (next room : Int) (w : World) (h : room < 1 ∨ 65535 < room) :
    Calls Try.prog 9 #[.int .u32 next, .int .i64 room] w fun e w' => e = .returned (.tuple #[.pointer none, .int .i64 2]) ∧ w = w' := by
  rcases h with h | h
  · go_enter Try.func9, Try.ntmps9
    go_wp2
    go_ret2
    exact ⟨rfl, rfl⟩
  · have h' : ¬ room < 1 := by omega
    go_enter Try.func9, Try.ntmps9
    go_wp2
    go_ret2
    exact ⟨rfl, rfl⟩
end Go.Proofs.Ytfijbbhoemdhbaa
