/-
  The walk of the reference's Build.
-/
import Derived.Test.YtnphhikbdffmpaaIcmp2
import Derived.Test.YtnphhikbdffmpaaRefSum
namespace Go.Proofs.Ytnphhikbdffmpaa
open Go.RowKit

theorem refof_n (A : Option Addr) (bs : List UInt8) (n c : Nat) (w : World) (hn : bs.length = n) (hb : Bs w A bs) (hl : bs.length ≤ 9223372036854775800) :
    Calls Try.prog 25 #[.slice A n c] w fun e w' => e = .returned (.int .u16 (65535 - rnd (words bs) : Nat)) ∧ w = w' := by
  subst hn
  exact refof_any A bs c w hb hl
theorem rbuild_arg (k c r : Int) (D : Option Addr) (n d : Nat) (w : World) (h : ¬ ((0 ≤ k ∧ k ≤ 255) ∧ (0 ≤ c ∧ c ≤ 255))) :
    Calls Try.prog 9 #[.agg #[.int .i64 k, .int .i64 c, .int .u32 r, .slice D n d]] w fun e w' => e = .returned (.tuple #[.slice none 0 0, .int .i64 2]) ∧ Below w.heap.size w w' := by
  have hb : Below w.heap.size w (w.alloc (.cells #[.int .i64 k, .int .i64 c, .int .u32 r, .slice D n d] 31)) := (Below.refl _ _).alloc (Nat.le_refl _) _
  have H := Lib.hid h
  clear h
  by_cases h1 : k < 0
  · go_enter Try.func9, Try.ntmps9
    go_wp2
    go_ret2
    exact ⟨rfl, hb⟩
  by_cases h2 : 255 < k
  · go_enter Try.func9, Try.ntmps9
    go_wp2
    go_ret2
    exact ⟨rfl, hb⟩
  by_cases h3 : c < 0
  · go_enter Try.func9, Try.ntmps9
    go_wp2
    go_ret2
    exact ⟨rfl, hb⟩
  have h4 : 255 < c := by have := H.out; omega
  go_enter Try.func9, Try.ntmps9
  go_wp2
  go_ret2
  exact ⟨rfl, hb⟩
theorem rbuild_long (k c r : Int) (D : Option Addr) (n d : Nat) (w : World) (h : 0 ≤ k ∧ k ≤ 255) (h' : 0 ≤ c ∧ c ≤ 255) (hn : (1472 : Int) < n) :
    Calls Try.prog 9 #[.agg #[.int .i64 k, .int .i64 c, .int .u32 r, .slice D n d]] w fun e w' => e = .returned (.tuple #[.slice none 0 0, .int .i64 3]) ∧ Below w.heap.size w w' := by
  have hb : Below w.heap.size w (w.alloc (.cells #[.int .i64 k, .int .i64 c, .int .u32 r, .slice D n d] 31)) := (Below.refl _ _).alloc (Nat.le_refl _) _
  obtain ⟨h1, h2⟩ := h
  obtain ⟨h3, h4⟩ := h'
  go_enter Try.func9, Try.ntmps9
  go_wp2
  go_ret2
  exact ⟨rfl, hb⟩

theorem own_head (w : World) (B : Nat) (k c r : Int) (hB : B ≤ w.heap.size) (k0 : 0 ≤ k) (k1 : k ≤ 255) (c0 : 0 ≤ c) (c1 : c ≤ 255) (r0 : 0 ≤ r) (r1 : r < 4294967296) :
    Own (w.alloc (.cells #[.int .u8 k, .int .u8 c, .int .u8 0, .int .u8 0, .int .u8 (r / 16777216), .int .u8 (r / 65536 % 256), .int .u8 (r / 256 % 256), .int .u8 (r % 256)] 5)) B (some ⟨w.heap.size, 0, none⟩) 8 ([u8 k, u8 c, 0, 0] ++ head4 r) := by
  refine row_of_blk (t := 5) ?_ hB rfl (by omega)
  have e0 := u8_toNat k k0 (by omega)
  have e1 := u8_toNat c c0 (by omega)
  have e4 := u8_toNat (r / 16777216 % 256) (by omega) (by omega)
  have e5 := u8_toNat (r / 65536 % 256) (by omega) (by omega)
  have e6 := u8_toNat (r / 256 % 256) (by omega) (by omega)
  have e7 := u8_toNat (r % 256) (by omega) (by omega)
  have e4' : r / 16777216 = r / 16777216 % 256 := by omega
  have hb := blk_new w 5 #[.int .u8 k, .int .u8 c, .int .u8 0, .int .u8 0, .int .u8 (r / 16777216), .int .u8 (r / 65536 % 256), .int .u8 (r / 256 % 256), .int .u8 (r % 256)]
  rw [e4'] at hb ⊢
  simp only [head4, bval, List.cons_append, List.nil_append, List.map_cons, List.map_nil, e0, e1, e4, e5, e6, e7]
  exact hb
set_option maxHeartbeats 4000000 in
set_option maxRecDepth 100000 in
theorem rbuild_any (k c r : Int) (D : Option Addr) (bs : List UInt8) (d : Nat) (w : World) (h : 0 ≤ k ∧ k ≤ 255) (h' : 0 ≤ c ∧ c ≤ 255) (r0 : 0 ≤ r) (r1 : r < 4294967296) (hn : (bs.length : Int) ≤ 1472) (hs : Sl w D d bs) :
    Calls Try.prog 9 #[.agg #[.int .i64 k, .int .i64 c, .int .u32 r, .slice D bs.length d]] w fun e w' => ∃ X x, e = .returned (.tuple #[.slice X (msg k c r bs).length x, .int .i64 0]) ∧ Own w' w.heap.size X x (msg k c r bs) ∧ Below w.heap.size w w' := by
  obtain ⟨k1, k2⟩ := h
  obtain ⟨k3, k4⟩ := h'
  have hb : Below w.heap.size w (w.alloc (.cells #[.int .i64 k, .int .i64 c, .int .u32 r, .slice D bs.length d] 31)) := (Below.refl _ _).alloc (Nat.le_refl _) _
  have hs1 := Lib.hid (hs.below hb)
  have HB := Lib.hid hb
  clear hb hs
  go_enter Try.func9, Try.ntmps9
  have ho := Lib.hid (own_head (w.alloc (.cells #[.int .i64 k, .int .i64 c, .int .u32 r, .slice D bs.length d] 31)) w.heap.size k c r (by simp) k1 k2 k3 k4 r0 r1)
  have hG : (w.alloc (.cells #[.int .i64 k, .int .i64 c, .int .u32 r, .slice D bs.length d] 31)).heap.size = w.heap.size + 1 := by simp
  rw [hG] at ho
  clear hG
  have l8 : Hid (([u8 k, u8 c, 0, 0] ++ head4 r : List UInt8).length = 8) := rfl
  have E0 : Hid ([u8 k, u8 c, 0, 0] ++ head4 r ++ bs = msg0 k c r bs) := rfl
  generalize [u8 k, u8 c, 0, 0] ++ head4 r = hd at *
  have LL : Hid (hd.length + bs.length ≤ 140737488355328) := by show _ ≤ _; rw [l8.out]; omega
  have LM : Hid ((msg0 k c r bs).length = 8 + bs.length) := by show _ = _; rw [← E0.out, List.length_append, l8.out]
  go_wp2_with (at_builtin; refine app_n _ rfl _ _ rfl w.heap.size (some ⟨w.heap.size + 1, 0, none⟩) 8 hd 8 l8.out rfl ho.out D d bs _ rfl rfl (hs1.out.below ((Below.refl _ _).alloc (Nat.le_refl _) _)) LL.out (by simp; try omega) ?_; intro A2 c2' w4 ho4 hg4)
  rw [E0.out] at ho4
  have hb4 := (HB.out.alloc (by simp) _).grown hg4 (by simp; omega) (fun q hq => by have h1 : w.heap.size + 1 = q := (by simpa [Value.ownBlock] using hq); omega)
  refine (refof_n A2 (msg0 k c r bs) (8 + bs.length) c2' w4 LM.out ho4.bs (by rw [LM.out]; omega)).mono ?_
  rintro e w5 ⟨rfl, rfl⟩
  obtain ⟨g2, rfl, hg2, hlt2⟩ := ho4.form (by rw [LM.out]; omega)
  have zb := rnd_le (words (msg0 k c r bs))
  obtain ⟨z, EZ⟩ : ∃ z : Int, Hid (((65535 - rnd (words (msg0 k c r bs)) : Nat) : Int) = z) := ⟨_, rfl⟩
  rw [EZ.out]
  have z0 : 0 ≤ z := by rw [← EZ.out]; omega
  have z1 : z < 65536 := by rw [← EZ.out]; omega
  have o2 := ho4.cell 2 (by rw [LM.out]; omega)
  have o3 := ho4.cell 3 (by rw [LM.out]; omega)
  have f2 := ho4.free 2
  have f3 := ho4.free 3
  have HO5 := Lib.hid ho4
  have HB5 := Lib.hid hb4
  have HG2 := Lib.hid hg2
  have q1 : IntKind.u16.wrap (z.tdiv 256) = z / 256 := by rw [Int.tdiv_eq_ediv_of_nonneg z0]; simp [IntKind.wrap, IntKind.bits, IntKind.signed]; omega
  clear ho4 hg4 hb4 zb hg2 LL
  go_wp2_with fail
  go_ret2
  have LMM : (msg k c r bs).length = 8 + bs.length := by unfold msg; rw [List.length_set, List.length_set, LM.out]
  have ho6 := (HO5.out.set 2 (z / 256) (by omega) (by omega)).set 3 (z % 256) (by omega) (by omega)
  have em : ((msg0 k c r bs).set 2 (UInt8.ofNat (z / 256).toNat)).set 3 (UInt8.ofNat (z % 256).toNat) = msg k c r bs := by
    unfold msg u8 sumMsg
    have e1 : (z / 256).toNat = (((65535 - rnd (words (msg0 k c r bs))) / 256 : Nat) : Int).toNat := by rw [← EZ.out]; omega
    have e2 : (z % 256).toNat = (((65535 - rnd (words (msg0 k c r bs))) % 256 : Nat) : Int).toNat := by rw [← EZ.out]; omega
    rw [e1, e2]
  rw [em] at ho6
  refine ⟨some ⟨g2, 0, none⟩, c2', (by rw [LMM] : Ending.returned (.tuple #[.slice (some ⟨g2, 0, none⟩) (8 + bs.length) c2', .int .i64 0]) = _), ho6, ?_⟩
  exact (HB5.out.setCell (p := ⟨g2, 2, none⟩) HG2.out _).setCell (p := ⟨g2, 3, none⟩) HG2.out _
end Go.Proofs.Ytnphhikbdffmpaa
