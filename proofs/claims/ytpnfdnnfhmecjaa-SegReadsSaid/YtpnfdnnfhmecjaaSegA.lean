/-
  The walks of sum.Pseudo and seg.total, and of the reference's Pseudo.
-/
import Derived.Test.YtpnfdnnfhmecjaaPlainSeg
import Derived.Test.YtpnfdnnfhmecjaaRefSum
import Derived.Test.YtpnfdnnfhmecjaaBits
import Derived.Deep.QuietTactic
import Derived.BigQuiet
namespace Go.Proofs.Ytpnfdnnfhmecjaa
open Go.RowKit
set_option linter.unusedVariables false

def psum (a b c d e f : Int) (j : Nat) : Int := match j with | 0 => 0 | 1 => a | 2 => a + b | 3 => a + b + c | 4 => a + b + c + d | 5 => a + b + c + d + e | _ => a + b + c + d + e + f
theorem rnd_int (a b : Int) (h0 : 0 ≤ a) (h1 : 0 ≤ b) : ((rnd (((rnd a.toNat : Nat) : Int) + b).toNat : Nat) : Int) = ((rnd (a + b).toNat : Nat) : Int) := by
  have : (((rnd a.toNat : Nat) : Int) + b).toNat = rnd a.toNat + b.toNat := by omega
  rw [this, rnd_add, show a.toNat + b.toNat = (a + b).toNat by omega]
theorem pseudo_eq (f t k n : Int) : psum (f / 65536) (f % 65536) (t / 65536) (t % 65536) k (n % 65536) 6 = f / 65536 + f % 65536 + (t / 65536 + t % 65536) + k + n % 65536 := by simp only [psum]; omega
theorem u32_low (x : Int) (h0 : 0 ≤ x) (h1 : x < 4294967296) : bits .and .u32 x 65535 = x % 65536 := by
  obtain ⟨n, rfl⟩ := Int.eq_ofNat_of_zero_le h0
  rw [and_ones n (by omega)]
  omega
theorem i64_low (x : Int) (h0 : 0 ≤ x) (h1 : x < 4294967296) : bits .and .i64 x 65535 = x % 65536 := by
  obtain ⟨n, rfl⟩ := Int.eq_ofNat_of_zero_le h0
  have := i64_and_nat n 65535 (by omega) (by omega)
  rw [nat_ones16] at this
  exact this.trans (by omega)
set_option maxHeartbeats 4000000 in
set_option maxRecDepth 100000 in
theorem pseudo_any (f t k n : Int) (w : World) (f0 : 0 ≤ f) (f1 : f < 4294967296) (t0 : 0 ≤ t) (t1 : t < 4294967296) (k0 : 0 ≤ k) (k1 : k < 256) (n0 : 0 ≤ n) (n1 : n ≤ 70000) :
    Calls Try.prog 43 #[.int .u32 f, .int .u32 t, .int .u8 k, .int .i64 n] w fun e w' => e = .returned (.int .u32 (pseudo f t k n : Nat)) ∧ Below w.heap.size w w' := by
  have HP : Hid (pseudo f t k n = rnd (psum (f / 65536) (f % 65536) (t / 65536) (t % 65536) k (n % 65536) 6).toNat) := by show _ = _; rw [pseudo_eq]; rfl
  have e1 := u32_low f f0 f1
  have e2 := u32_low t t0 t1
  have e3 := i64_low n n0 (by omega)
  have e4 : n % 65536 % 4294967296 = n % 65536 := by omega
  have hb : Below w.heap.size w (w.alloc (.cells #[.int .u32 (f / 65536), .int .u32 (f % 65536), .int .u32 (t / 65536), .int .u32 (t % 65536), .int .u32 k, .int .u32 (n % 65536)] 72)) := (Below.refl _ _).alloc (Nat.le_refl _) _
  have HB := Lib.hid hb
  clear hb
  rw [HP.out]
  clear HP
  go_enter Try.func43, Try.ntmps43
  go_wp2_with fail
  clear e1 e2 e3 e4
  have a0 : 0 ≤ f / 65536 ∧ f / 65536 < 65536 := by omega
  have a1 : 0 ≤ f % 65536 ∧ f % 65536 < 65536 := by omega
  have a2 : 0 ≤ t / 65536 ∧ t / 65536 < 65536 := by omega
  have a3 : 0 ≤ t % 65536 ∧ t % 65536 < 65536 := by omega
  have a5 : 0 ≤ n % 65536 ∧ n % 65536 < 65536 := by omega
  generalize Ev0 : f / 65536 = v0 at *
  replace Ev0 := Lib.hid Ev0
  generalize Ev1 : f % 65536 = v1 at *
  replace Ev1 := Lib.hid Ev1
  generalize Ev2 : t / 65536 = v2 at *
  replace Ev2 := Lib.hid Ev2
  generalize Ev3 : t % 65536 = v3 at *
  replace Ev3 := Lib.hid Ev3
  generalize Ev5 : n % 65536 = v5 at *
  replace Ev5 := Lib.hid Ev5
  generalize w.alloc (.cells #[.int .u32 v0, .int .u32 v1, .int .u32 v2, .int .u32 v3, .int .u32 k, .int .u32 v5] 72) = w1 at *
  have j0 : ∀ W : World, (Instr.index 72 (.agg #[.int .u32 v0, .int .u32 v1, .int .u32 v2, .int .u32 v3, .int .u32 k, .int .u32 v5]) (.int .i64 0)).run Try.prog W = .ok (.int .u32 v0) W := fun _ => by kernel_rfl
  have j1 : ∀ W : World, (Instr.index 72 (.agg #[.int .u32 v0, .int .u32 v1, .int .u32 v2, .int .u32 v3, .int .u32 k, .int .u32 v5]) (.int .i64 1)).run Try.prog W = .ok (.int .u32 v1) W := fun _ => by kernel_rfl
  have j2 : ∀ W : World, (Instr.index 72 (.agg #[.int .u32 v0, .int .u32 v1, .int .u32 v2, .int .u32 v3, .int .u32 k, .int .u32 v5]) (.int .i64 2)).run Try.prog W = .ok (.int .u32 v2) W := fun _ => by kernel_rfl
  have j3 : ∀ W : World, (Instr.index 72 (.agg #[.int .u32 v0, .int .u32 v1, .int .u32 v2, .int .u32 v3, .int .u32 k, .int .u32 v5]) (.int .i64 3)).run Try.prog W = .ok (.int .u32 v3) W := fun _ => by kernel_rfl
  have j4 : ∀ W : World, (Instr.index 72 (.agg #[.int .u32 v0, .int .u32 v1, .int .u32 v2, .int .u32 v3, .int .u32 k, .int .u32 v5]) (.int .i64 4)).run Try.prog W = .ok (.int .u32 k) W := fun _ => by kernel_rfl
  have j5 : ∀ W : World, (Instr.index 72 (.agg #[.int .u32 v0, .int .u32 v1, .int .u32 v2, .int .u32 v3, .int .u32 k, .int .u32 v5]) (.int .i64 5)).run Try.prog W = .ok (.int .u32 v5) W := fun _ => by kernel_rfl
  go_loop [10, 28] (fun s i => ∃ j : Nat, j ≤ 6 ∧ i = .int .i64 j ∧ s = .int .u32 ((rnd (psum v0 v1 v2 v3 k v5 j).toNat : Nat) : Int)) (fun _ i => 6 - (intOf i).toNat)
  case atStart => exact ⟨0, by omega, rfl, rfl⟩
  case round =>
    obtain ⟨j, hj, rfl, rfl⟩ := hrel
    by_cases hlt : j < 6
    · have hr := rnd_le (psum v0 v1 v2 v3 k v5 j).toNat
      have hnx : ∀ v : Int, 0 ≤ v → psum v0 v1 v2 v3 k v5 j + v = psum v0 v1 v2 v3 k v5 (j + 1) → 0 ≤ psum v0 v1 v2 v3 k v5 j → Hid (((rnd (((rnd (psum v0 v1 v2 v3 k v5 j).toNat : Nat) : Int) + v).toNat : Nat) : Int) = ((rnd (psum v0 v1 v2 v3 k v5 (j + 1)).toNat : Nat) : Int)) := fun v hv he h0 => by
        show _ = _
        rw [← he]
        exact rnd_int _ _ h0 hv
      rcases (by omega : j = 0 ∨ j = 1 ∨ j = 2 ∨ j = 3 ∨ j = 4 ∨ j = 5) with rfl | rfl | rfl | rfl | rfl | rfl
      · have HS := hnx v0 (by omega) (by simp only [psum]; omega) (by simp only [psum]; omega)
        clear hnx
        generalize rnd (psum v0 v1 v2 v3 k v5 0).toNat = r at *
        go_wp2_with (go_at_call 41; refine (round_any _ (by omega) (by omega) _).mono ?_; rintro e w' ⟨rfl, rfl⟩)
        exact ⟨⟨1, by omega, rfl, val_int HS.out⟩, by simp [intOf]⟩
      · have HS := hnx v1 (by omega) (by simp only [psum]) (by simp only [psum]; omega)
        clear hnx
        generalize rnd (psum v0 v1 v2 v3 k v5 1).toNat = r at *
        go_wp2_with (go_at_call 41; refine (round_any _ (by omega) (by omega) _).mono ?_; rintro e w' ⟨rfl, rfl⟩)
        exact ⟨⟨2, by omega, rfl, val_int HS.out⟩, by simp [intOf]⟩
      · have HS := hnx v2 (by omega) (by simp only [psum]) (by simp only [psum]; omega)
        clear hnx
        generalize rnd (psum v0 v1 v2 v3 k v5 2).toNat = r at *
        go_wp2_with (go_at_call 41; refine (round_any _ (by omega) (by omega) _).mono ?_; rintro e w' ⟨rfl, rfl⟩)
        exact ⟨⟨3, by omega, rfl, val_int HS.out⟩, by simp [intOf]⟩
      · have HS := hnx v3 (by omega) (by simp only [psum]) (by simp only [psum]; omega)
        clear hnx
        generalize rnd (psum v0 v1 v2 v3 k v5 3).toNat = r at *
        go_wp2_with (go_at_call 41; refine (round_any _ (by omega) (by omega) _).mono ?_; rintro e w' ⟨rfl, rfl⟩)
        exact ⟨⟨4, by omega, rfl, val_int HS.out⟩, by simp [intOf]⟩
      · have HS := hnx k (by omega) (by simp only [psum]) (by simp only [psum]; omega)
        clear hnx
        generalize rnd (psum v0 v1 v2 v3 k v5 4).toNat = r at *
        go_wp2_with (go_at_call 41; refine (round_any _ (by omega) (by omega) _).mono ?_; rintro e w' ⟨rfl, rfl⟩)
        exact ⟨⟨5, by omega, rfl, val_int HS.out⟩, by simp [intOf]⟩
      · have HS := hnx v5 (by omega) (by simp only [psum]) (by simp only [psum]; omega)
        clear hnx
        generalize rnd (psum v0 v1 v2 v3 k v5 5).toNat = r at *
        go_wp2_with (go_at_call 41; refine (round_any _ (by omega) (by omega) _).mono ?_; rintro e w' ⟨rfl, rfl⟩)
        exact ⟨⟨6, by omega, rfl, val_int HS.out⟩, by simp [intOf]⟩
    · have ej : j = 6 := by omega
      subst ej
      go_wp2_with fail
      go_ret
      exact ⟨ret_int (by rw [Ev0.out, Ev1.out, Ev2.out, Ev3.out, Ev5.out]), HB.out⟩
theorem add_n (p : Int) (h0 : 0 ≤ p) (h1 : p < 4294967296) (A : Option Addr) (bs : List UInt8) (n c : Nat) (w : World) (hn : bs.length = n) (hb : Bs w A bs) (hl : bs.length ≤ 9223372036854775807) :
    Calls Try.prog 42 #[.int .u32 p, .slice A n c] w fun e w' => e = .returned (.int .u32 (rnd (p.toNat + words bs) : Nat)) ∧ Drawn w w' := by
  subst hn
  exact add_any p h0 h1 A bs c w hb hl
theorem refadd_n (p : Int) (h0 : 0 ≤ p) (h1 : p < 4294967296) (A : Option Addr) (bs : List UInt8) (n c : Nat) (w : World) (hn : bs.length = n) (hb : Bs w A bs) (hl : bs.length ≤ 9223372036854775800) :
    Calls Try.prog 30 #[.int .u32 p, .slice A n c] w fun e w' => e = .returned (.int .u32 (rnd (p.toNat + words bs) : Nat)) ∧ w = w' := by
  subst hn
  exact refadd_any p h0 h1 A bs c w hb hl
theorem total_n (f t : Int) (A : Option Addr) (bs : List UInt8) (n c : Nat) (w : World) (f0 : 0 ≤ f) (f1 : f < 4294967296) (t0 : 0 ≤ t) (t1 : t < 4294967296) (hn : bs.length = n) (hb : Bs w A bs) (hl : (n : Int) ≤ 70000) :
    Calls Try.prog 25 #[.int .u32 f, .int .u32 t, .slice A n c] w fun e w' => e = .returned (.int .u32 (totalN f t bs : Nat)) ∧ Below w.heap.size w w' := by
  have HT : Hid (totalN f t bs = rnd (pseudo f t 6 n + words bs)) := by show _ = _; unfold totalN; rw [hn]
  have HN := Lib.hid hn
  have HBS := Lib.hid hb
  clear hn hb
  have hr := rnd_le (f / 65536 + f % 65536 + (t / 65536 + t % 65536) + 6 + (n : Int) % 65536).toNat
  have hp : pseudo f t 6 n = rnd (f / 65536 + f % 65536 + (t / 65536 + t % 65536) + 6 + (n : Int) % 65536).toNat := rfl
  rw [← hp] at hr
  clear hp
  go_enter Try.func25, Try.ntmps25
  go_wp2_with fail
  refine (pseudo_any f t 6 n _ f0 f1 t0 t1 (by omega) (by omega) (by omega) hl).mono ?_
  rintro e w1 ⟨rfl, hb1⟩
  have HB := Lib.hid hb1
  clear hb1
  generalize pseudo f t 6 n = p at *
  go_wp2_with fail
  refine (add_n (p : Int) (by omega) (by omega) A bs n c _ HN.out (HBS.out.below HB.out) (by have := HN.out; omega)).mono ?_
  rintro e w2 ⟨rfl, hd⟩
  have HD := Lib.hid hd
  clear hd
  go_wp2_with fail
  go_ret
  exact ⟨ret_int (by rw [HT.out]), HB.out.trans (HD.out.below _)⟩
theorem pseudo_words (f t k n : Int) (f0 : 0 ≤ f) (f1 : f < 4294967296) (t0 : 0 ≤ t) (t1 : t < 4294967296) (k0 : 0 ≤ k) (k1 : k < 256) (n0 : 0 ≤ n) :
    ∃ ps : List UInt8, ps.length = 12 ∧ rnd (words ps) = pseudo f t k n ∧ (ps.map bval).toArray = #[Value.int IntKind.u8 (f / 16777216), Value.int IntKind.u8 (f / 65536 % 256), Value.int IntKind.u8 (f / 256 % 256), Value.int IntKind.u8 (f % 256), Value.int IntKind.u8 (t / 16777216), Value.int IntKind.u8 (t / 65536 % 256), Value.int IntKind.u8 (t / 256 % 256), Value.int IntKind.u8 (t % 256), Value.int IntKind.u8 0, Value.int IntKind.u8 k, Value.int IntKind.u8 (n % 65536 / 256), Value.int IntKind.u8 (n % 256)] := by
  have a0 := u8_toNat (f / 16777216) (by omega) (by omega)
  have a1 := u8_toNat (f / 65536 % 256) (by omega) (by omega)
  have a2 := u8_toNat (f / 256 % 256) (by omega) (by omega)
  have a3 := u8_toNat (f % 256) (by omega) (by omega)
  have b0 := u8_toNat (t / 16777216) (by omega) (by omega)
  have b1 := u8_toNat (t / 65536 % 256) (by omega) (by omega)
  have b2 := u8_toNat (t / 256 % 256) (by omega) (by omega)
  have b3 := u8_toNat (t % 256) (by omega) (by omega)
  have c0 := u8_toNat k k0 k1
  have c1 := u8_toNat (n % 65536 / 256) (by omega) (by omega)
  have c2 := u8_toNat (n % 256) (by omega) (by omega)
  have z : (0 : UInt8).toNat = 0 := rfl
  refine ⟨[u8 (f / 16777216), u8 (f / 65536 % 256), u8 (f / 256 % 256), u8 (f % 256), u8 (t / 16777216), u8 (t / 65536 % 256), u8 (t / 256 % 256), u8 (t % 256), 0, u8 k, u8 (n % 65536 / 256), u8 (n % 256)], rfl, ?_, ?_⟩
  · unfold pseudo
    congr 1
    simp only [words]
    rw [z]
    omega
  · simp only [List.map_cons, List.map_nil, bval, a0, a1, a2, a3, b0, b1, b2, b3, c0, c1, c2, z]
    rfl
set_option maxHeartbeats 4000000 in
set_option maxRecDepth 100000 in
theorem refpseudo_any (f t n : Int) (w : World) (f0 : 0 ≤ f) (f1 : f < 4294967296) (t0 : 0 ≤ t) (t1 : t < 4294967296) (n0 : 0 ≤ n) (n1 : n ≤ 70000) :
    Calls Try.prog 31 #[.int .u32 f, .int .u32 t, .int .u8 6, .int .i64 n] w fun e w' => e = .returned (.int .u32 (pseudo f t 6 n : Nat)) ∧ Below w.heap.size w w' := by
  obtain ⟨ps, hl, hw, ha⟩ := pseudo_words f t 6 n f0 f1 t0 t1 (by omega) (by omega) n0
  have hb := bs_lit w ps
  have hbl : Below w.heap.size w (w.alloc (.cells (ps.map bval).toArray 5)) := (Below.refl _ _).alloc (Nat.le_refl _) _
  rw [ha] at hb hbl
  have HL := Lib.hid hl
  have HW := Lib.hid hw
  have HB := Lib.hid hb
  have HBL := Lib.hid hbl
  clear hl hw ha hb hbl
  go_enter Try.func31, Try.ntmps31
  go_wp2_with fail
  refine (refadd_n 0 (by omega) (by omega) _ ps 12 12 _ HL.out HB.out (by rw [HL.out]; omega)).mono ?_
  rintro e w2 ⟨rfl, rfl⟩
  go_wp2_with fail
  go_ret
  exact ⟨ret_int (by rw [← HW.out]), HBL.out⟩
end Go.Proofs.Ytpnfdnnfhmecjaa
