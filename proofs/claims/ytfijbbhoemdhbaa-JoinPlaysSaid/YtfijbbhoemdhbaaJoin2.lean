/-
  The walks of join.New and hold.
-/
import Derived.Test.YtfijbbhoemdhbaaJoin1
namespace Go.Proofs.Ytfijbbhoemdhbaa
open Go.RowKit

theorem info_bool : (Try.prog.info? 4).map (fun i => (i.zero, i.size, i.bytes)) = some (some (.bool false), 1, 1) := by kernel_rfl

section
variable {w : World} {g R T : Nat} {A : Option Addr} {c : Nat} {s : JS}
theorem plc_lt (h : JAt w g R T A c s) (o : Nat) : plc s o < s.ring.length := plc_lt' s h.inv.first o

theorem holds_put (h : JAt w g R T A c s) (k : Nat) (b : UInt8) (hi : Inv { s with ring := s.ring.set k b, has := s.has.set k true, held := s.held + 1 }) :
    JAt ((((w.setCell ⟨R, k, none⟩ (.int .u8 (b.toNat : Int))).setCell ⟨T, k, none⟩ (.bool true)).drew).setCell ⟨g, 4, none⟩ (.int .i64 (s.held + 1))) g R T A c { s with ring := s.ring.set k b, has := s.has.set k true, held := s.held + 1 } := by
  exact ⟨(((h.toJMem.setRing k b).setHas k true).drew).setHeld (s.held + 1), hi⟩

def Holds (g R T : Nat) (A : Option Addr) (c : Nat) (s : JS) (w : World) (e : Ending) (w' : World) : Prop :=
  e = .returned (.tuple #[]) ∧ JAt w' g R T A c s ∧ Frame (JF g R T A) w w'

set_option maxHeartbeats 1000000 in
set_option maxRecDepth 100000 in
theorem hold_any (h : JAt w g R T A c s) (o : Nat) (how : o < window s) (b : UInt8) :
    Calls Try.prog 26 #[.pointer (some ⟨g, 0, none⟩), .int .i64 o, .int .u8 (b.toNat : Int)] w (Holds g R T A c (holdS s o b) w) := by
  have hp := plc_lt h o
  have ho : o ≤ 70000 := by have := h.inv.room; unfold window at how; omega
  have hi := Lib.hid (hold_inv s h.inv o how b)
  have hh := held_le s h.inv
  have hr := h.inv.room
  clear how
  cases hb : s.has.getD (plc s o) false
  · go_enter Try.func26, Try.ntmps26
    go_wp2_with fail
    refine (place_any h o ho).mono ?_
    rintro e w1 ⟨rfl, hd⟩
    replace h := h.drawn hd
    have c2 := h.c2
    have c3 := h.c3
    have c4 := h.c4
    have ct := h.ch _ hp
    rw [hb] at ct
    have cr := h.cr _ hp
    have ft := h.has.free (plc s o)
    have fr := h.ring.free (plc s o)
    have f4 := h.blk.free 4
    have n1 := h.gR
    have n2 := h.gT
    have n3 := h.RT
    have k0 : ((plc s o : Nat) : Int) < (s.ring.length : Int) := by omega
    have HB := Lib.hid hb
    clear hb
    generalize hK : plc s o = k at *
    have HK := Lib.hid hK
    clear hK
    have e : holdS s o b = { s with ring := s.ring.set k b, has := s.has.set k true, held := s.held + 1 } := by
      rw [holdS, if_neg (by rw [HK.out, HB.out]; simp), HK.out]
    rw [e] at hi
    have HE := Lib.hid e
    clear e
    have FIN := Lib.hid (holds_put h k b hi.out)
    have hF := (Frame.refl (JF g R T A) w).drawn hd
    go_wp2_with fail
    go_region
    go_wp2
    go_end0
    refine ⟨rfl, ?_, ?_⟩
    · rw [HE.out]; exact FIN.out
    · exact Frame.set (Frame.drewN (Frame.set (Frame.set hF (p := ⟨R, k, none⟩) (.inr (.inl rfl)) _) (p := ⟨T, k, none⟩) (.inr (.inr (.inl rfl))) _) 1) (p := ⟨g, 4, none⟩) (.inl rfl) _
  · have HS := Lib.hid (show holdS s o b = s by rw [holdS, if_pos hb])
    go_enter Try.func26, Try.ntmps26
    go_wp2_with fail
    refine (place_any h o ho).mono ?_
    rintro e w1 ⟨rfl, hd⟩
    have hF := (Frame.refl (JF g R T A) w).drawn hd
    replace h := h.drawn hd
    have c3 := h.c3
    have ct := h.ch _ hp
    rw [hb] at ct
    have k0 : ((plc s o : Nat) : Int) < (s.ring.length : Int) := by omega
    go_wp2_with fail
    go_end0
    exact ⟨rfl, by rw [HS.out]; exact h, hF⟩
end
end Go.Proofs.Ytfijbbhoemdhbaa
