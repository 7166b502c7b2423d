/-
  The walk of the law SumAdds.
-/
import Derived.Test.YtdjaodecblialaaShort
import Derived.Test.YtdjaodecblialaaRefSum
namespace Go.Proofs.Ytdjaodecblialaa
open Go.RowKit

theorem take600 (bs : List UInt8) : (bs.take 600).take 600 = bs.take 600 := List.take_of_length_le (by rw [List.length_take]; omega)

set_option maxHeartbeats 1000000 in
set_option maxRecDepth 100000 in
theorem sumAdds_walk (p : Int) (h0 : 0 ≤ p) (h1 : p < 4294967296) (A : Option Addr) (bs : List UInt8) (c : Nat) (w : World) (hs : Sl w A c bs) :
    Calls Try.prog 4 #[.int .u32 p, .slice A bs.length c] w fun e w' => e = .returned (.bool true) ∧ Below w.heap.size w w' := by
  have T := Lib.hid (take600 bs)
  have ht : (bs.take 600).length ≤ 600 := by rw [List.length_take]; omega
  go_enter Try.func4, Try.ntmps4
  go_wp2_with fail
  refine (short_any A bs c _ hs).mono ?_
  generalize bs.take 600 = t at *
  rintro e w1 ⟨A1, c1, rfl, ho1, hb1⟩
  have s1 := ho1.sl
  clear ho1 hs
  go_wp2_with fail
  refine (short_any A1 t c1 _ s1).mono ?_
  rw [T.out]
  rintro e w2 ⟨A2, c2, rfl, ho2, hb2⟩
  have s2 := ho2.sl
  replace s1 := s1.below hb2
  replace hb1 := hb1.trans (hb2.mono hb1.size)
  clear ho2 hb2
  go_wp2_with fail
  refine (add_any p h0 h1 A2 t c2 _ s2.1 (by omega)).mono ?_
  rintro e w3 ⟨rfl, hd⟩
  replace s1 := s1.drawn hd
  replace hb1 := hb1.trans (hd.below _)
  clear hd s2
  go_wp2_with fail
  refine (refadd_any p h0 h1 A1 t c1 _ s1.1 (by omega)).mono ?_
  rintro e w4 ⟨rfl, rfl⟩
  go_wp2_with fail
  refine (fold_any p h0 h1 _).mono ?_
  rintro e w4 ⟨rfl, rfl⟩
  go_wp2_with fail
  refine (reffold_any p h0 h1 _).mono ?_
  rintro e w4 ⟨rfl, rfl⟩
  go_wp2_with fail
  refine (short_any A1 t c1 _ s1).mono ?_
  rw [T.out]
  rintro e w5 ⟨A2, c2, rfl, ho2, hb2⟩
  have s2 := ho2.sl
  replace s1 := s1.below hb2
  replace hb1 := hb1.trans (hb2.mono hb1.size)
  clear ho2 hb2
  go_wp2_with fail
  refine (of_any A2 t c2 _ s2.1 (by omega)).mono ?_
  rintro e w6 ⟨rfl, hd⟩
  replace s1 := s1.drawn hd
  replace hb1 := hb1.trans (hd.below _)
  clear hd s2
  go_wp2_with fail
  refine (refof_any A1 t c1 _ s1.1 (by omega)).mono ?_
  rintro e w7 ⟨rfl, rfl⟩
  go_wp2_with fail
  refine (short_any A1 t c1 _ s1).mono ?_
  rw [T.out]
  rintro e w8 ⟨A2, c2, rfl, ho2, hb2⟩
  have s2 := ho2.sl
  replace s1 := s1.below hb2
  replace hb1 := hb1.trans (hb2.mono hb1.size)
  clear ho2 hb2
  go_wp2_with fail
  refine (right_any A2 t c2 _ s2.1 (by omega)).mono ?_
  rintro e w9 ⟨rfl, hd⟩
  replace s1 := s1.drawn hd
  replace hb1 := hb1.trans (hd.below _)
  clear hd s2
  go_wp2_with fail
  refine (refright_any A1 t c1 _ s1.1 (by omega)).mono ?_
  rintro e w10 ⟨rfl, rfl⟩
  go_wp2_with fail
  refine (works_any _).mono ?_
  rintro e w11 ⟨rfl, hb2⟩
  replace hb1 := hb1.trans (hb2.mono hb1.size)
  go_wp2_with fail
  go_ret
  exact ⟨rfl, hb1⟩
end Go.Proofs.Ytdjaodecblialaa
