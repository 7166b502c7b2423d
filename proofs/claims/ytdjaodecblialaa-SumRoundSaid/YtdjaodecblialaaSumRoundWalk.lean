/-
  The walk of the law SumRound.
-/
import Derived.Test.YtdjaodecblialaaShort
namespace Go.Proofs.Ytdjaodecblialaa
open Go.RowKit

theorem Sl.len_le {w : World} {A : Option Addr} {c : Nat} {bs : List UInt8} (h : Sl w A c bs) : bs.length ≤ c ∧ c ≤ 9223372036854775807 := ⟨h.2.1, h.2.2.1⟩
theorem add_n (p : Int) (h0 : 0 ≤ p) (h1 : p < 4294967296) (A : Option Addr) (bs : List UInt8) (n c : Nat) (w : World) (hn : bs.length = n) (hb : Bs w A bs) (hl : bs.length ≤ 9223372036854775807) :
    Calls Try.prog 13 #[.int .u32 p, .slice A n c] w fun e w' => e = .returned (.int .u32 (rnd (p.toNat + words bs) : Nat)) ∧ Drawn w w' := by
  subst hn
  exact add_any p h0 h1 A bs c w hb hl

set_option maxHeartbeats 1000000 in
set_option maxRecDepth 100000 in
theorem sumRound_walk (A : Option Addr) (xs : List UInt8) (c : Nat) (B : Option Addr) (bs : List UInt8) (d : Nat) (w : World) (ha : Sl w A c xs) (hb : Sl w B d bs) :
    Calls Try.prog 3 #[.slice A xs.length c, .slice B bs.length d] w fun e w' => e = .returned (.bool true) ∧ Below w.heap.size w w' := by
  have t1 : (xs.take 600).length ≤ 600 := by rw [List.length_take]; omega
  have t2 : (bs.take 600).length ≤ 600 := by rw [List.length_take]; omega
  go_enter Try.func3, Try.ntmps3
  go_wp2_with fail
  refine (works_any _).mono ?_
  rintro e w0 ⟨rfl, h0⟩
  replace ha := ha.below h0
  replace hb := hb.below h0
  go_wp2_with fail
  refine (short_any A xs c _ ha).mono ?_
  generalize xs.take 600 = a at *
  rintro e w1 ⟨A1, c1, rfl, ho1, hb1⟩
  have s1 := ho1.sl
  replace hb := hb.below hb1
  replace h0 := h0.trans (hb1.mono h0.size)
  clear ho1 ha hb1
  go_wp2_with fail
  refine (short_any B bs d _ hb).mono ?_
  generalize bs.take 600 = b at *
  rintro e w2 ⟨B1, d1, rfl, ho2, hb2⟩
  have s2 := ho2.sl
  replace s1 := s1.below hb2
  replace h0 := h0.trans (hb2.mono h0.size)
  clear ho2 hb hb2
  obtain ⟨q1, q2⟩ := s1.len_le
  obtain ⟨q3, q4⟩ := s2.len_le
  have s1' := s1.take (2 * (a.length / 2))
  have l1 : a.length / 2 * 2 = (a.take (2 * (a.length / 2))).length := by rw [List.length_take]; omega
  have t1' : (a.take (2 * (a.length / 2))).length ≤ 600 := by rw [List.length_take]; omega
  generalize a.take (2 * (a.length / 2)) = a' at *
  have L1 := Lib.hid l1
  clear l1
  go_wp2_with fail
  rw [L1.out]
  refine (bytes_any A1 a' c1 _ s1' (by omega)).mono ?_
  rintro e w3 ⟨A2, c2, rfl, ho3, hb3⟩
  have s2' := s2.below hb3
  have g3 := hb3.size
  go_wp2_with (at_builtin; refine app_bytes _ rfl _ _ rfl w2.heap.size A2 c2 a' rfl ho3 B1 d1 b rfl s2' (by omega) hb3.size ?_; intro A3 c3 w4 ho4 hg4)
  have hb4 := hb3.grown hg4 hb3.size (fun k hk => (ownBlock_lt ho3 k hk).1)
  replace s1' := s1'.below hb4
  replace s2 := s2.below hb4
  replace h0 := h0.trans (hb4.mono h0.size)
  have s4 := ho4.sl.1
  clear ho4 hg4 hb4 ho3 hb3 s2' s1 g3
  have E1 := Lib.hid (show rnd (rnd (words a') + words b) = rnd (words (a' ++ b)) by rw [words_append _ _ (by have := L1.out; omega), rnd_add])
  refine (add_n 0 (by omega) (by omega) A3 (a' ++ b) _ c3 _ (by simp) s4 (by simp; omega)).mono ?_
  rintro e w5 ⟨rfl, hd⟩
  replace s1' := s1'.drawn hd
  replace s2 := s2.drawn hd
  replace h0 := h0.trans (hd.below _)
  clear hd s4
  go_wp2_with fail
  refine (add_any 0 (by omega) (by omega) A1 a' c1 _ s1'.1 (by omega)).mono ?_
  rintro e w6 ⟨rfl, hd⟩
  replace s1' := s1'.drawn hd
  replace s2 := s2.drawn hd
  replace h0 := h0.trans (hd.below _)
  clear hd
  have r1 := rnd_le (words a')
  go_wp2_with fail
  refine (add_any _ (by omega) (by omega) B1 b d1 _ s2.1 (by omega)).mono ?_
  rintro e w7 ⟨rfl, hd⟩
  replace s1' := s1'.drawn hd
  replace s2 := s2.drawn hd
  replace h0 := h0.trans (hd.below _)
  clear hd
  have s2' := s2.take (2 * (b.length / 2))
  have l2 : b.length / 2 * 2 = (b.take (2 * (b.length / 2))).length := by rw [List.length_take]; omega
  have t2' : (b.take (2 * (b.length / 2))).length ≤ 600 := by rw [List.length_take]; omega
  generalize b.take (2 * (b.length / 2)) = b' at *
  have L2 := Lib.hid l2
  clear l2
  have e1 := E1.out
  go_wp2_with fail
  clear e1
  rw [L2.out]
  have E2 := Lib.hid (show rnd (rnd (words b') + words a') = rnd (rnd (words a') + words b') by rw [rnd_add, rnd_add, Nat.add_comm])
  refine (add_any 0 (by omega) (by omega) B1 b' d1 _ s2'.1 (by omega)).mono ?_
  rintro e w8 ⟨rfl, hd⟩
  replace s1' := s1'.drawn hd
  replace s2' := s2'.drawn hd
  replace h0 := h0.trans (hd.below _)
  clear hd
  have r2 := rnd_le (words b')
  go_wp2_with fail
  refine (add_any _ (by omega) (by omega) A1 a' c1 _ s1'.1 (by omega)).mono ?_
  rintro e w9 ⟨rfl, hd⟩
  replace s1' := s1'.drawn hd
  replace s2' := s2'.drawn hd
  replace h0 := h0.trans (hd.below _)
  clear hd
  go_wp2_with fail
  refine (add_any 0 (by omega) (by omega) A1 a' c1 _ s1'.1 (by omega)).mono ?_
  rintro e w10 ⟨rfl, hd⟩
  replace s2' := s2'.drawn hd
  replace h0 := h0.trans (hd.below _)
  clear hd
  go_wp2_with fail
  refine (add_any _ (by omega) (by omega) B1 b' d1 _ s2'.1 (by omega)).mono ?_
  rintro e w11 ⟨rfl, hd⟩
  replace h0 := h0.trans (hd.below _)
  clear hd
  have e2 := E2.out
  go_wp2_with fail
  go_ret
  exact ⟨rfl, h0⟩
end Go.Proofs.Ytdjaodecblialaa
