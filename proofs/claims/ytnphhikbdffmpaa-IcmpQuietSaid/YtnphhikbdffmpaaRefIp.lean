/-
  The walks of the reference's packets: within, right, two, four, Build.
-/
import Derived.Test.YtnphhikbdffmpaaIpBuild2
import Derived.Test.YtnphhikbdffmpaaRefSum
namespace Go.Proofs.Ytnphhikbdffmpaa
open Go.RowKit
set_option linter.unusedVariables false

theorem within_any (n m : Int) (w : World) : Calls Try.prog 45 #[.int .i64 n, .int .i64 m] w fun e w' => e = .returned (.bool (decide (0 ≤ n ∧ n ≤ m))) ∧ w = w' := by
  by_cases h0 : 0 ≤ n
  · go_enter Try.func45, Try.ntmps45
    go_wp2
    go_ret
    exact ⟨congrArg (fun b => Ending.returned (.bool b)) (by rw [Bool.eq_iff_iff]; simp [h0]), rfl⟩
  · go_enter Try.func45, Try.ntmps45
    go_wp2
    go_ret
    exact ⟨congrArg (fun b => Ending.returned (.bool b)) (by rw [Bool.eq_iff_iff]; simp; omega), rfl⟩

theorem rright_any (id at_ life kind : Int) (wh mo : Bool) (f t : Int) (D : Option Addr) (n c : Nat) (w : World) :
    Calls Try.prog 40 #[.agg (packet id at_ life kind wh mo f t D n c)] w fun e w' => e = .returned (.bool (decide (rightP id at_ life kind))) ∧ Below w.heap.size w w' := by
  have hb : Below w.heap.size w (w.alloc (.cells (packet id at_ life kind wh mo f t D n c) 45)) := (Below.refl _ _).alloc (Nat.le_refl _) _
  by_cases h1 : 0 ≤ at_ ∧ at_ ≤ 8191
  · by_cases h2 : 0 ≤ id ∧ id ≤ 65535
    · by_cases h3 : 0 ≤ life ∧ life ≤ 255
      · have HR : Hid (decide (rightP id at_ life kind) = decide (0 ≤ kind ∧ kind ≤ 255)) := by
          show _ = _
          rw [Bool.eq_iff_iff]
          simp [rightP, h1, h2, h3]
        rw [HR.out]
        have H1 := Lib.hid (decide_eq_true h1)
        have H2 := Lib.hid (decide_eq_true h2)
        have H3 := Lib.hid (decide_eq_true h3)
        clear h1 h2 h3
        go_enter Try.func40, Try.ntmps40
        go_wp2_with fail
        refine (within_any _ _ _).mono ?_
        rw [H1.out]
        rintro e w' ⟨rfl, rfl⟩
        go_wp2_with fail
        refine (within_any _ _ _).mono ?_
        rw [H2.out]
        rintro e w' ⟨rfl, rfl⟩
        go_wp2_with fail
        refine (within_any _ _ _).mono ?_
        rw [H3.out]
        rintro e w' ⟨rfl, rfl⟩
        go_wp2_with fail
        refine (within_any _ _ _).mono ?_
        obtain ⟨q, HQ⟩ : ∃ z, Hid (decide (0 ≤ kind ∧ kind ≤ 255) = z) := ⟨_, rfl⟩
        rw [HQ.out]
        rintro e w' ⟨rfl, rfl⟩
        go_wp2_with fail
        go_ret
        exact ⟨by rw [HQ.out]; rfl, hb⟩
      · have HR : Hid (decide (rightP id at_ life kind) = false) := decide_eq_false (fun h => h3 h.2.2.1)
        rw [HR.out]
        have H1 := Lib.hid (decide_eq_true h1)
        have H2 := Lib.hid (decide_eq_true h2)
        have H3 := Lib.hid (decide_eq_false h3)
        clear h1 h2 h3
        go_enter Try.func40, Try.ntmps40
        go_wp2_with fail
        refine (within_any _ _ _).mono ?_
        rw [H1.out]
        rintro e w' ⟨rfl, rfl⟩
        go_wp2_with fail
        refine (within_any _ _ _).mono ?_
        rw [H2.out]
        rintro e w' ⟨rfl, rfl⟩
        go_wp2_with fail
        refine (within_any _ _ _).mono ?_
        rw [H3.out]
        rintro e w' ⟨rfl, rfl⟩
        go_wp2_with fail
        go_ret
        exact ⟨rfl, hb⟩
    · have HR : Hid (decide (rightP id at_ life kind) = false) := decide_eq_false (fun h => h2 h.2.1)
      rw [HR.out]
      have H1 := Lib.hid (decide_eq_true h1)
      have H2 := Lib.hid (decide_eq_false h2)
      clear h1 h2
      go_enter Try.func40, Try.ntmps40
      go_wp2_with fail
      refine (within_any _ _ _).mono ?_
      rw [H1.out]
      rintro e w' ⟨rfl, rfl⟩
      go_wp2_with fail
      refine (within_any _ _ _).mono ?_
      rw [H2.out]
      rintro e w' ⟨rfl, rfl⟩
      go_wp2_with fail
      go_ret
      exact ⟨rfl, hb⟩
  · have HR : Hid (decide (rightP id at_ life kind) = false) := decide_eq_false (fun h => h1 h.1)
    rw [HR.out]
    have H1 := Lib.hid (decide_eq_false h1)
    clear h1
    go_enter Try.func40, Try.ntmps40
    go_wp2_with fail
    refine (within_any _ _ _).mono ?_
    rw [H1.out]
    rintro e w' ⟨rfl, rfl⟩
    go_wp2_with fail
    go_ret
    exact ⟨rfl, hb⟩

def two8 (x : Int) : List UInt8 := [u8 (x / 256 % 256), u8 (x % 256)]
theorem own_two (w : World) (B : Nat) (x : Int) (hB : B ≤ w.heap.size) : Own (w.alloc (.cells #[.int .u8 (x / 256 % 256), .int .u8 (x % 256)] 5)) B (some ⟨w.heap.size, 0, none⟩) 2 (two8 x) := by
  refine row_of_blk (t := 5) ?_ hB rfl (by omega)
  have e0 := u8_toNat (x / 256 % 256) (by omega) (by omega)
  have e1 := u8_toNat (x % 256) (by omega) (by omega)
  simp only [two8, bval, List.map_cons, List.map_nil, e0, e1]
  exact blk_new w 5 #[.int .u8 (x / 256 % 256), .int .u8 (x % 256)]
theorem two_any (x : Int) (w : World) (h0 : 0 ≤ x) (h1 : x < 4294967296) : Calls Try.prog 41 #[.int .i64 x] w (Made (two8 x) w) := by
  have ho := Lib.hid (own_two w w.heap.size x (Nat.le_refl _))
  go_enter Try.func41, Try.ntmps41
  go_wp2
  go_ret
  exact ⟨_, _, rfl, ho.out, (Below.refl _ _).alloc (Nat.le_refl _) _⟩
def four8 (x : Int) : List UInt8 := two8 (x / 65536) ++ two8 (x % 65536)
set_option maxRecDepth 100000 in
theorem four_any (x : Int) (w : World) (h0 : 0 ≤ x) (h1 : x < 4294967296) : Calls Try.prog 42 #[.int .u32 x] w (Made (four8 x) w) := by
  go_enter Try.func42, Try.ntmps42
  go_wp2_with fail
  refine (two_any (x / 65536) _ (by omega) (by omega)).mono ?_
  rintro e w1 ⟨X1, y1, rfl, ho1, hb1⟩
  go_wp2_with fail
  refine (two_any (x % 65536) _ (by omega) (by omega)).mono ?_
  rintro e w2 ⟨X2, y2, rfl, ho2, hb2⟩
  have ho1' := Lib.hid (ho1.keep hb2)
  have hs2 := Lib.hid ho2.sl
  have hb := Lib.hid (hb1.trans (hb2.mono hb1.size))
  have l1 : Hid ((two8 (x / 65536)).length = 2) := rfl
  have l2 : Hid ((two8 (x % 65536)).length = 2) := rfl
  have hz := hb.out.size
  rw [l1.out, l2.out]
  clear ho1 ho2 hb1 hb2
  go_wp2_with (at_builtin; refine app_n _ rfl _ _ rfl w.heap.size X1 y1 (two8 (x / 65536)) 2 l1.out rfl ho1'.out X2 y2 (two8 (x % 65536)) 2 l2.out rfl hs2.out (by rw [l1.out, l2.out]; omega) hz ?_; intro A2 c2 w3 ho3 hg3)
  have hB3 := hb.out.grown hg3 hz (fun q hq => ((ownBlock_lt ho1'.out) q hq).1)
  have HO := Lib.hid ho3
  clear ho3 hg3
  go_ret
  exact ⟨A2, c2, rfl, HO.out, hB3⟩
end Go.Proofs.Ytnphhikbdffmpaa
