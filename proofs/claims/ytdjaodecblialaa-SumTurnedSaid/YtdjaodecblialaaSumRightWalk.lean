/-
  The walk of the law SumRight.
-/
import Derived.Test.YtdjaodecblialaaShort
namespace Go.Proofs.Ytdjaodecblialaa
open Go.RowKit

theorem of_n (A : Option Addr) (bs : List UInt8) (n c : Nat) (w : World) (hn : bs.length = n) (hb : Bs w A bs) (hl : bs.length ≤ 9223372036854775807) :
    Calls Try.prog 18 #[.slice A n c] w fun e w' => e = .returned (.int .u16 (65535 - rnd (words bs) : Nat)) ∧ Drawn w w' := by
  subst hn
  exact of_any A bs c w hb hl
theorem right_n (A : Option Addr) (bs : List UInt8) (n c : Nat) (w : World) (hn : bs.length = n) (hb : Bs w A bs) (hl : bs.length ≤ 9223372036854775807) :
    Calls Try.prog 20 #[.slice A n c] w fun e w' => e = .returned (.bool (rnd (words bs) == 65535)) ∧ Drawn w w' := by
  subst hn
  exact right_any A bs c w hb hl

theorem right_law (t : List UInt8) (k s : Nat) (hk : k % 2 = 0) (h : k + 1 < t.length) (hs : s = 65535 - rnd (words t)) (hz0 : t.getD k 0 = 0) (hz1 : t.getD (k + 1) 0 = 0) :
    rnd (words ((t.set k (UInt8.ofNat (s / 256))).set (k + 1) (UInt8.ofNat (s % 256)))) = 65535 := by
  have := words_set t k (UInt8.ofNat (s / 256)) (UInt8.ofNat (s % 256)) hk h
  rw [hz0, hz1, UInt8.toNat_ofNat', UInt8.toNat_ofNat'] at this
  simp at this
  rw [this, show 256 * (s / 256 % 256) + s % 256 = s by omega, hs, rnd_right]

set_option maxHeartbeats 1000000 in
set_option maxRecDepth 100000 in
theorem sumRight_walk (A : Option Addr) (bs : List UInt8) (c : Nat) (x : Int) (w : World) (hs : Sl w A c bs) :
    Calls Try.prog 5 #[.slice A bs.length c, .int .i64 x] w fun e w' => e = .returned (.bool true) ∧ Below w.heap.size w w' := by
  have t1 : (bs.take 600).length ≤ 600 := by rw [List.length_take]; omega
  go_enter Try.func5, Try.ntmps5
  go_wp2_with fail
  refine (works_any _).mono ?_
  rintro e w0 ⟨rfl, h0⟩
  replace hs := hs.below h0
  go_wp2_with fail
  refine (short_any A bs c _ hs).mono ?_
  generalize bs.take 600 = t at *
  rintro e w1 ⟨A1, c1, rfl, ho1, hb1⟩
  replace ho1 := ho1.base h0.size
  replace h0 := h0.trans (hb1.mono h0.size)
  have hB := h0.size
  clear hb1 hs
  by_cases hlt : t.length < 2
  · go_wp2_with fail
    go_ret
    exact ⟨rfl, h0⟩
  obtain ⟨g, rfl, hg0, hg1⟩ := ho1.form (by omega)
  go_wp2_with fail
  refine (among_any _ _ _ (by omega) (by omega)).mono ?_
  have hk := among_bd x (t.length / 2) (by omega)
  generalize among x (t.length / 2) = kk at *
  obtain ⟨k, rfl⟩ := Int.eq_ofNat_of_zero_le hk.1
  have hk2 : k < t.length / 2 := by omega
  clear hk
  rintro e w2 ⟨rfl, rfl⟩
  have c0 := ho1.cell (2 * k) (by omega)
  have c1 := ho1.cell (2 * k + 1) (by omega)
  have f0 := ho1.free (2 * k)
  have f1 := ho1.free (2 * k + 1)
  have ho2 := (ho1.set (2 * k) 0 (by omega) (by omega)).set (2 * k + 1) 0 (by omega) (by omega)
  have h2 := (h0.setCell (p := ⟨g, 2 * k, none⟩) hg0 (.int .u8 0)).setCell (p := ⟨g, 2 * k + 1, none⟩) hg0 (.int .u8 0)
  go_wp2_with fail
  have l0 : t.length = ((t.set (2 * k) (UInt8.ofNat (0 : Int).toNat)).set (2 * k + 1) (UInt8.ofNat (0 : Int).toNat)).length := by simp
  have z0 : ((t.set (2 * k) (UInt8.ofNat (0 : Int).toNat)).set (2 * k + 1) (UInt8.ofNat (0 : Int).toNat)).getD (2 * k) 0 = 0 := by
    simp [List.getD_eq_getElem?_getD, show 2 * k < t.length by omega]
  have z1 : ((t.set (2 * k) (UInt8.ofNat (0 : Int).toNat)).set (2 * k + 1) (UInt8.ofNat (0 : Int).toNat)).getD (2 * k + 1) 0 = 0 := by
    simp [List.getD_eq_getElem?_getD, show 2 * k + 1 < t.length by omega]
  clear c0 c1 f0 f1 ho1 h0
  generalize (t.set (2 * k) (UInt8.ofNat (0 : Int).toNat)).set (2 * k + 1) (UInt8.ofNat (0 : Int).toNat) = t0 at *
  generalize ((w1.setCell ⟨g, 2 * k, none⟩ (.int .u8 0)).setCell ⟨g, 2 * k + 1, none⟩ (.int .u8 0)) = w2 at *
  rw [l0]
  have k2 : 2 * k + 1 < t0.length := by omega
  have k3 : t0.length ≤ 600 := by omega
  have Z0 := Lib.hid z0
  have Z1 := Lib.hid z1
  clear l0 z0 z1
  refine (of_any _ t0 _ _ ho2.bs (by omega)).mono ?_
  rintro e w3 ⟨rfl, hd⟩
  replace ho2 := ho2.keep (hd.below _)
  replace h2 := h2.trans (hd.below _)
  clear hd
  have r1 := rnd_le (words t0)
  have RL := Lib.hid (right_law t0 (2 * k) (65535 - rnd (words t0)) (by omega) k2 rfl Z0.out Z1.out)
  have s0 : 65535 - rnd (words t0) ≤ 65535 := by omega
  generalize 65535 - rnd (words t0) = s at *
  have c0 := ho2.cell (2 * k) (by omega)
  have c1 := ho2.cell (2 * k + 1) (by omega)
  have f0 := ho2.free (2 * k)
  have f1 := ho2.free (2 * k + 1)
  have d1 : (s : Int) / 256 < 256 := by omega
  have d2 : (s : Int) % 256 < 256 := by omega
  have ho3 := (ho2.set (2 * k) ((s : Int) / 256) (by omega) d1).set (2 * k + 1) ((s : Int) % 256) (by omega) d2
  have h3 := (h2.setCell (p := ⟨g, 2 * k, none⟩) hg0 (.int .u8 ((s : Int) / 256))).setCell (p := ⟨g, 2 * k + 1, none⟩) hg0 (.int .u8 ((s : Int) % 256))
  rw [show ((s : Int) / 256).toNat = s / 256 by omega, show ((s : Int) % 256).toNat = s % 256 by omega] at ho3
  go_wp2_with fail
  refine (right_n _ ((t0.set (2 * k) (UInt8.ofNat (s / 256))).set (2 * k + 1) (UInt8.ofNat (s % 256))) _ _ _ (by simp) ho3.bs (by simp; omega)).mono ?_
  rw [show (rnd (words ((t0.set (2 * k) (UInt8.ofNat (s / 256))).set (2 * k + 1) (UInt8.ofNat (s % 256)))) == 65535) = true by rw [RL.out]; rfl]
  rintro e w4 ⟨rfl, hd⟩
  go_wp2_with fail
  go_ret
  exact ⟨rfl, h3.trans (hd.below _)⟩
end Go.Proofs.Ytdjaodecblialaa
