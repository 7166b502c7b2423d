/-
  The walk of the law SumTurned.
-/
import Derived.Test.YtdjaodecblialaaSumRightWalk
import Derived.Test.YtdjaodecblialaaSumTurn
namespace Go.Proofs.Ytdjaodecblialaa
open Go.RowKit

def zeros (l : List UInt8) : Bool := l.all (· == 0)
theorem zeros_snoc (l : List UInt8) (k : Nat) (h : k < l.length) : zeros (l.take (k + 1)) = (zeros (l.take k) && l.getD k 0 == 0) := by
  unfold zeros
  rw [List.take_succ_eq_append_getElem h, List.all_append]
  simp only [List.getD_eq_getElem?_getD, List.getElem?_eq_getElem h, List.all_cons, List.all_nil, Bool.and_true, Option.getD_some]
theorem zeros_words (l : List UInt8) : zeros l = true ↔ words l = 0 := by
  rw [words_zero]
  simp [zeros]

theorem turned_law (t : List UInt8) (k now : Nat) (hk : k % 2 = 0) (h : k + 1 < t.length) (hn : now < 65536) :
    let t1 := (t.set k (UInt8.ofNat (now / 256))).set (k + 1) (UInt8.ofNat (now % 256))
    let tt := 65535 - rnd ((65535 - (65535 - rnd (words t))) + (65535 - (256 * (t.getD k 0).toNat + (t.getD (k + 1) 0).toNat)) + now)
    (words t1 ≠ 0 → tt = 65535 - rnd (words t1)) ∧ (words t1 = 0 → tt = 0) := by
  have h1 := words_set t k (UInt8.ofNat (now / 256)) (UInt8.ofNat (now % 256)) hk h
  have h2 := words_split t k hk h
  have hx := (t.getD k 0).toNat_lt
  have hy := (t.getD (k + 1) 0).toNat_lt
  rw [UInt8.toNat_ofNat', UInt8.toNat_ofNat', show 256 * (now / 256 % 2 ^ 8) + now % 256 % 2 ^ 8 = now by omega] at h1
  have r := rnd_le (words t)
  intro t1 tt
  show (words ((t.set k (UInt8.ofNat (now / 256))).set (k + 1) (UInt8.ofNat (now % 256))) ≠ 0 → 65535 - rnd ((65535 - (65535 - rnd (words t))) + (65535 - (256 * (t.getD k 0).toNat + (t.getD (k + 1) 0).toNat)) + now) = 65535 - rnd (words ((t.set k (UInt8.ofNat (now / 256))).set (k + 1) (UInt8.ofNat (now % 256)))))
    ∧ (words ((t.set k (UInt8.ofNat (now / 256))).set (k + 1) (UInt8.ofNat (now % 256))) = 0 → 65535 - rnd ((65535 - (65535 - rnd (words t))) + (65535 - (256 * (t.getD k 0).toNat + (t.getD (k + 1) 0).toNat)) + now) = 0)
  generalize words ((t.set k (UInt8.ofNat (now / 256))).set (k + 1) (UInt8.ofNat (now % 256))) = n1 at *
  have hw : 256 * (t.getD k 0).toNat + (t.getD (k + 1) 0).toNat ≤ 65535 := by omega
  generalize 256 * (t.getD k 0).toNat + (t.getD (k + 1) 0).toNat = was at *
  rw [show 65535 - (65535 - rnd (words t)) = rnd (words t) by omega]
  generalize words t = n at *
  constructor
  · intro hz
    rw [rnd_turned n was now (by omega) (by omega) (by omega), show n - was + now = n1 by omega]
  · intro hz
    have : n = was := by omega
    subst this
    rw [rnd_small (show n ≤ 65535 by omega), show n + (65535 - n) + now = 65535 by omega]
    rfl

set_option maxHeartbeats 2000000 in
set_option maxRecDepth 100000 in
theorem sumTurned_walk (A : Option Addr) (bs : List UInt8) (c : Nat) (x now : Int) (n0 : 0 ≤ now) (n1 : now < 65536) (w : World) (hs : Sl w A c bs) :
    Calls Try.prog 6 #[.slice A bs.length c, .int .i64 x, .int .u16 now] w fun e w' => e = .returned (.bool true) ∧ Below w.heap.size w w' := by
  have t1 : (bs.take 600).length ≤ 600 := by rw [List.length_take]; omega
  go_enter Try.func6, Try.ntmps6
  go_wp2_with fail
  refine (works_any _).mono ?_
  rintro e w0 ⟨rfl, h0⟩
  replace hs := hs.below h0
  go_wp2_with fail
  refine (short_any A bs c _ hs).mono ?_
  generalize bs.take 600 = t at *
  rintro e w1 ⟨A1, cc, rfl, ho1, hb1⟩
  replace ho1 := ho1.base h0.size
  replace h0 := h0.trans (hb1.mono h0.size)
  have hB := h0.size
  clear hb1 hs
  by_cases hlt : t.length < 2
  · go_wp2_with fail
    go_ret
    exact ⟨rfl, h0⟩
  obtain ⟨g, rfl, hg0, hg1⟩ := ho1.form (by omega)
  go_wp2_with fail
  refine (among_any _ _ _ (by omega) (by omega)).mono ?_
  have hk := among_bd x (t.length / 2) (by omega)
  generalize among x (t.length / 2) = kk at *
  obtain ⟨k, rfl⟩ := Int.eq_ofNat_of_zero_le hk.1
  have hk2 : k < t.length / 2 := by omega
  clear hk
  rintro e w2 ⟨rfl, rfl⟩
  go_wp2_with fail
  refine (of_any _ t _ _ ho1.bs (by omega)).mono ?_
  rintro e w3 ⟨rfl, hd⟩
  replace ho1 := ho1.keep (hd.below _)
  replace h0 := h0.trans (hd.below _)
  have LAW := Lib.hid (turned_law t (2 * k) now.toNat (by omega) (by omega) (by omega))
  clear hd
  have c0 := ho1.cell (2 * k) (by omega)
  have c1 := ho1.cell (2 * k + 1) (by omega)
  have f0 := ho1.free (2 * k)
  have f1 := ho1.free (2 * k + 1)
  have hx := (t.getD (2 * k) 0).toNat_lt
  have hy := (t.getD (2 * k + 1) 0).toNat_lt
  generalize (t.getD (2 * k) 0) = x0 at *
  generalize (t.getD (2 * k + 1) 0) = y0 at *
  have e0 : (2 * (k : Int)) < (t.length : Int) := by omega
  have e1 : (2 * (k : Int)) + 1 < (t.length : Int) := by omega
  go_wp2_with fail
  go_quiet (fail)
  replace ho1 := ho1.keep (below_drewN (Below.refl _ _) nq)
  replace h0 := below_drewN h0 nq
  replace c0 : (w3.drewN nq).cell? ⟨g, 2 * k, none⟩ = some (Value.int IntKind.u8 ↑x0.toNat) := c0
  replace c1 : (w3.drewN nq).cell? ⟨g, 2 * k + 1, none⟩ = some (Value.int IntKind.u8 ↑y0.toNat) := c1
  replace f0 : (w3.drewN nq).frozen? ⟨g, 2 * k, none⟩ = false := f0
  replace f1 : (w3.drewN nq).frozen? ⟨g, 2 * k + 1, none⟩ = false := f1
  generalize w3.drewN nq = w4 at *
  have q1 : now / 256 < 256 := by omega
  have q2 : now % 256 < 256 := by omega
  have ho2 := (ho1.set (2 * k) (now / 256) (by omega) q1).set (2 * k + 1) (now % 256) (by omega) q2
  have h2 := (h0.setCell (p := ⟨g, 2 * k, none⟩) hg0 (.int .u8 (now / 256))).setCell (p := ⟨g, 2 * k + 1, none⟩) hg0 (.int .u8 (now % 256))
  rw [show (now / 256).toNat = now.toNat / 256 by omega, show (now % 256).toNat = now.toNat % 256 by omega] at ho2
  have r1 := rnd_le (words t)
  have l2 : ((t.set (2 * k) (UInt8.ofNat (now.toNat / 256))).set (2 * k + 1) (UInt8.ofNat (now.toNat % 256))).length = t.length := by simp
  have L2 := Lib.hid l2
  clear l2
  generalize (t.set (2 * k) (UInt8.ofNat (now.toNat / 256))).set (2 * k + 1) (UInt8.ofNat (now.toNat % 256)) = t2 at *
  have dq : IntKind.u16.wrap (now.tdiv 256) % 256 = now / 256 := by
    rw [Int.tdiv_eq_ediv_of_nonneg n0, IntKind.wrap_u16]
    omega
  go_wp2_with fail
  clear c0 c1 f0 f1 ho1 h0 dq
  generalize ((w4.setCell ⟨g, 2 * k, none⟩ (.int .u8 (now / 256))).setCell ⟨g, 2 * k + 1, none⟩ (.int .u8 (now % 256))) = w5 at *
  refine (turn_any _ _ _ (by omega) (by omega) (by omega) (by omega) (by omega) (by omega) _).mono ?_
  rw [show (↑(65535 - rnd (words t)) : Int).toNat = 65535 - rnd (words t) by omega, show (256 * (x0.toNat : Int) + ↑y0.toNat).toNat = 256 * x0.toNat + y0.toNat by omega]
  generalize 65535 - rnd (65535 - (65535 - rnd (words t)) + (65535 - (256 * x0.toNat + y0.toNat)) + now.toNat) = tt at *
  rintro e w6 ⟨rfl, rfl⟩
  have lt2 := Lib.hid (show t2.length ≤ 600 by rw [L2.out]; exact t1)
  go_wp2_with fail
  go_loop [11, 12] (fun z i => ∃ j : Nat, j ≤ t.length ∧ i = .int .i64 j ∧ z = .bool (zeros (t2.take j))) (fun _ i => t.length - (intOf i).toNat)
  case atStart => exact ⟨0, Nat.zero_le _, rfl, rfl⟩
  case round =>
    obtain ⟨j, hj, rfl, rfl⟩ := hrel
    by_cases hjl : j < t.length
    · have cj := ho2.cell j (by rw [L2.out]; exact hjl)
      have SN := Lib.hid (zeros_snoc t2 j (by rw [L2.out]; exact hjl))
      generalize zeros (t2.take j) = z at *
      generalize t2.getD j 0 = y at *
      cases z
      · go_wp2_with fail
        go_round
        case rel => exact ⟨j + 1, by omega, by go_num, by rw [SN.out]; rfl⟩
        case measure => simp [intOf]; omega
      · go_wp2_with fail
        go_round
        case rel => exact ⟨j + 1, by omega, by go_num, by rw [SN.out]; exact congrArg Value.bool (by rw [Bool.true_and, Bool.eq_iff_iff]; simp [u8_zero])⟩
        case measure => simp [intOf]; omega
    · have ET : t2.take j = t2 := List.take_of_length_le (by rw [L2.out]; omega)
      rw [ET]
      clear ET
      go_wp2_with fail
      refine (of_n _ t2 _ _ _ L2.out ho2.bs (by rw [L2.out]; omega)).mono ?_
      rintro e w7 ⟨rfl, hd⟩
      replace h2 := h2.trans (hd.below _)
      clear hd
      by_cases hz : words t2 = 0
      · have hzz := (zeros_words t2).2 hz
        have htt := LAW.out.2 hz
        subst htt
        rw [hz, hzz]
        go_wp2_with fail
        go_ret
        exact ⟨rfl, h2⟩
      · have htt := LAW.out.1 hz
        subst htt
        go_wp2_with fail
        go_ret
        exact ⟨rfl, h2⟩
end Go.Proofs.Ytdjaodecblialaa
