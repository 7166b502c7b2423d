/-
  Build and Read in all cases, of the program and of the reference; few.
-/
import Derived.Test.YtnphhikbdffmpaaIcmp6
import Derived.Test.YtnphhikbdffmpaaBlk9
import Derived.Test.YtnphhikbdffmpaaSame
namespace Go.Proofs.Ytnphhikbdffmpaa
open Go.RowKit

def octets (k c : Int) : Prop := (0 ≤ k ∧ k ≤ 255) ∧ (0 ≤ c ∧ c ≤ 255)
instance (k c : Int) : Decidable (octets k c) := by unfold octets; infer_instance
def errB (k c : Int) (n : Nat) : Int := if octets k c then (if (1472 : Int) < n then 3 else 0) else 2
def outB (k c r : Int) (bs : List UInt8) : List UInt8 := if errB k c bs.length = 0 then msg k c r bs else []
def Built (k c r : Int) (bs : List UInt8) (w : World) (e : Ending) (w' : World) : Prop :=
  ∃ X x, e = .returned (.tuple #[.slice X (outB k c r bs).length x, .int .i64 (errB k c bs.length)]) ∧ Own w' w.heap.size X x (outB k c r bs) ∧ Below w.heap.size w w'
theorem built_no {k c r : Int} {bs : List UInt8} {w : World} {z : Int} (h : errB k c bs.length = z) (hz : z ≠ 0) {e : Ending} {w' : World} (h' : e = .returned (.tuple #[.slice none 0 0, .int .i64 z]) ∧ Below w.heap.size w w') : Built k c r bs w e w' := by
  have eo : outB k c r bs = [] := by rw [outB, if_neg (by rw [h]; exact hz)]
  refine ⟨none, 0, ?_, ?_, h'.2⟩
  · rw [eo, h]; exact h'.1
  · rw [eo]; exact Own.nil _ _
theorem built_yes {k c r : Int} {bs : List UInt8} {w : World} (h : errB k c bs.length = 0) {e : Ending} {w' : World}
    (h' : ∃ X x, e = .returned (.tuple #[.slice X (msg k c r bs).length x, .int .i64 0]) ∧ Own w' w.heap.size X x (msg k c r bs) ∧ Below w.heap.size w w') : Built k c r bs w e w' := by
  have eo : outB k c r bs = msg k c r bs := by rw [outB, if_pos h]
  obtain ⟨X, x, h1, h2, h3⟩ := h'
  exact ⟨X, x, by rw [eo, h]; exact h1, by rw [eo]; exact h2, h3⟩
theorem build_all (k c r : Int) (D : Option Addr) (bs : List UInt8) (d : Nat) (w : World) (r0 : 0 ≤ r) (r1 : r < 4294967296) (hs : Sl w D d bs) :
    Calls Try.prog 8 #[.agg #[.int .i64 k, .int .i64 c, .int .u32 r, .slice D bs.length d]] w (Built k c r bs w) := by
  by_cases h : octets k c
  · by_cases hn : (1472 : Int) < bs.length
    · exact (build_long k c r D bs.length d w h.1 h.2 hn).mono fun _ _ h' => built_no (by rw [errB, if_pos h, if_pos hn]) (by omega) h'
    · exact (build_any k c r D bs d w h.1 h.2 r0 r1 (by omega) hs).mono fun _ _ h' => built_yes (by rw [errB, if_pos h, if_neg hn]) h'
  · exact (build_arg k c r D bs.length d w (by unfold octets at h; omega)).mono fun _ _ h' => built_no (by rw [errB, if_neg h]) (by omega) h'
theorem rbuild_all (k c r : Int) (D : Option Addr) (bs : List UInt8) (d : Nat) (w : World) (r0 : 0 ≤ r) (r1 : r < 4294967296) (hs : Sl w D d bs) :
    Calls Try.prog 9 #[.agg #[.int .i64 k, .int .i64 c, .int .u32 r, .slice D bs.length d]] w (Built k c r bs w) := by
  by_cases h : octets k c
  · by_cases hn : (1472 : Int) < bs.length
    · exact (rbuild_long k c r D bs.length d w h.1 h.2 hn).mono fun _ _ h' => built_no (by rw [errB, if_pos h, if_pos hn]) (by omega) h'
    · exact (rbuild_any k c r D bs d w h.1 h.2 r0 r1 (by omega) hs).mono fun _ _ h' => built_yes (by rw [errB, if_pos h, if_neg hn]) h'
  · exact (rbuild_arg k c r D bs.length d w (by unfold octets at h; exact h)).mono fun _ _ h' => built_no (by rw [errB, if_neg h]) (by omega) h'
theorem build_n (k c r : Int) (D : Option Addr) (bs : List UInt8) (n d : Nat) (w : World) (hn : bs.length = n) (r0 : 0 ≤ r) (r1 : r < 4294967296) (hs : Sl w D d bs) :
    Calls Try.prog 8 #[.agg #[.int .i64 k, .int .i64 c, .int .u32 r, .slice D n d]] w (Built k c r bs w) := by
  subst hn; exact build_all k c r D bs d w r0 r1 hs
theorem rbuild_n (k c r : Int) (D : Option Addr) (bs : List UInt8) (n d : Nat) (w : World) (hn : bs.length = n) (r0 : 0 ≤ r) (r1 : r < 4294967296) (hs : Sl w D d bs) :
    Calls Try.prog 9 #[.agg #[.int .i64 k, .int .i64 c, .int .u32 r, .slice D n d]] w (Built k c r bs w) := by
  subst hn; exact rbuild_all k c r D bs d w r0 r1 hs

def kindR (bs : List UInt8) : Int := if okMsg bs then ((bs.getD 0 0).toNat : Int) else 0
def codeR (bs : List UInt8) : Int := if okMsg bs then ((bs.getD 1 0).toNat : Int) else 0
def restR (bs : List UInt8) : Int := if okMsg bs then restOf bs else 0
def dataR (bs : List UInt8) : List UInt8 := if okMsg bs then bs.drop 8 else []
def errR (bs : List UInt8) : Int := if okMsg bs then 0 else 90
def Got (bs : List UInt8) (w : World) (e : Ending) (w' : World) : Prop :=
  ∃ X x, e = .returned (.tuple #[.agg #[.int .i64 (kindR bs), .int .i64 (codeR bs), .int .u32 (restR bs), .slice X (dataR bs).length x], .int .i64 (errR bs)]) ∧ Own w' w.heap.size X x (dataR bs) ∧ Below w.heap.size w w'
theorem restR_bd (bs : List UInt8) : 0 ≤ restR bs ∧ restR bs < 4294967296 := by
  unfold restR
  split
  · exact restOf_bd bs
  · omega
theorem got_no {bs : List UInt8} {w : World} (h : ¬ okMsg bs) {e : Ending} {w' : World} (h' : e = .returned (.tuple #[.agg #[.int .i64 0, .int .i64 0, .int .u32 0, .slice none 0 0], .int .i64 90]) ∧ Below w.heap.size w w') : Got bs w e w' := by
  have eo : dataR bs = [] := by rw [dataR, if_neg h]
  refine ⟨none, 0, ?_, by rw [eo]; exact Own.nil _ _, h'.2⟩
  rw [kindR, codeR, restR, eo, errR, if_neg h, if_neg h, if_neg h, if_neg h]
  exact h'.1
theorem got_yes {bs : List UInt8} {w : World} (h : okMsg bs) {e : Ending} {w' : World}
    (h' : ∃ X x, e = .returned (.tuple #[.agg #[.int .i64 (bs.getD 0 0).toNat, .int .i64 (bs.getD 1 0).toNat, .int .u32 (restOf bs), .slice X (bs.drop 8).length x], .int .i64 0]) ∧ Own w' w.heap.size X x (bs.drop 8) ∧ Below w.heap.size w w') : Got bs w e w' := by
  have eo : dataR bs = bs.drop 8 := by rw [dataR, if_pos h]
  obtain ⟨X, x, h1, h2, h3⟩ := h'
  refine ⟨X, x, ?_, by rw [eo]; exact h2, h3⟩
  rw [kindR, codeR, restR, eo, errR, if_pos h, if_pos h, if_pos h, if_pos h]
  exact h1
theorem read_n (A : Option Addr) (bs : List UInt8) (n c : Nat) (w : World) (hn : bs.length = n) (hs : Sl w A c bs) (hl : bs.length ≤ 70000) :
    Calls Try.prog 10 #[.slice A n c] w (Got bs w) := by
  by_cases h8 : (n : Int) < 8
  · exact (read_short A n c w h8).mono fun _ _ h' => got_no (fun h => by have := h.1; omega) h'
  · by_cases hr : rnd (words bs) = 65535
    · exact (read_any A bs n c w hn (by omega) hs (by omega) hr).mono fun _ _ h' => got_yes ⟨by omega, hr⟩ h'
    · exact (read_wrong A bs n c w hn h8 hs.1 (by omega) hr).mono fun _ _ h' => got_no (fun h => hr h.2) h'
theorem rread_n (A : Option Addr) (bs : List UInt8) (n c : Nat) (w : World) (hn : bs.length = n) (hs : Sl w A c bs) (hl : bs.length ≤ 70000) :
    Calls Try.prog 12 #[.slice A n c] w (Got bs w) := by
  by_cases h8 : (n : Int) < 8
  · exact (rread_short A n c w h8).mono fun _ _ h' => got_no (fun h => by have := h.1; omega) h'
  · by_cases hr : rnd (words bs) = 65535
    · exact (rread_any A bs n c w hn (by omega) hs (by omega) hr).mono fun _ _ h' => got_yes ⟨by omega, hr⟩ h'
    · exact (rread_wrong A bs n c w hn h8 hs.1 (by omega) hr).mono fun _ _ h' => got_no (fun h => hr h.2) h'
theorem same_n (A : Option Addr) (xs : List UInt8) (n c : Nat) (B : Option Addr) (ys : List UInt8) (m d : Nat) (w : World) (hn : xs.length = n) (hm : ys.length = m) (hx : Bs w A xs) (hy : Bs w B ys) :
    Calls Try.prog 13 #[.slice A n c, .slice B m d] w fun e w' => e = .returned (.bool (decide (xs = ys))) ∧ w = w' := by
  subst hn hm; exact same_any A xs c B ys d w hx hy

def fewL (bs : List UInt8) : List UInt8 := if 1472 < bs.length then List.replicate 1473 0 else bs.take 300
theorem fewL_le (bs : List UInt8) : (fewL bs).length ≤ 1473 := by
  unfold fewL
  split
  · rw [List.length_replicate]; omega
  · rw [List.length_take]; omega
set_option maxRecDepth 100000 in
theorem few_any (A : Option Addr) (bs : List UInt8) (n c : Nat) (w : World) (hn : bs.length = n) (hs : Sl w A c bs) :
    Calls Try.prog 7 #[.slice A n c] w (Made (fewL bs) w) := by
  by_cases h : 1472 < bs.length
  · have hm := Lib.hid (own_make w w.heap.size 1473 1473 (Nat.le_refl _) (Nat.le_refl _) (by omega))
    have hl : fewL bs = List.replicate 1473 0 := by rw [fewL, if_pos h]
    have hb : Below w.heap.size w (w.alloc (.cells (madeCells #[.int .u8 0] 1473) 5)) := (Below.refl _ _).alloc (Nat.le_refl _) _
    have mk : ∀ W : World, (Instr.makeSlice 23 (.int .i64 1473) (.int .i64 1473)).run Try.prog W = .ok (.slice (some ⟨W.heap.size, 0, none⟩) 1473 1473) (W.alloc (.cells (madeCells #[.int .u8 0] 1473) 5)) := fun W => make_bytes 1473 1473 (by omega) (by omega) W
    have h' : (1472 : Int) < (n : Int) := by omega
    rw [hl]
    have HB := Lib.hid hb
    clear hl hn hs h hb
    go_enter Try.func7, Try.ntmps7
    go_wp2_with fail
    go_ret
    exact ⟨some ⟨w.heap.size, 0, none⟩, 1473, by rw [List.length_replicate]; rfl, hm.out, HB.out⟩
  · have hl : fewL bs = bs.take 300 := by rw [fewL, if_neg h]
    have h1 := hs.2.1
    have h2 := hs.2.2.1
    have hs' := hs.take 300
    rw [hl]
    have hz : 300 < n ∧ (bs.take 300).length = 300 ∨ n ≤ 300 ∧ (bs.take 300).length = n := by rw [List.length_take]; omega
    have h' : (n : Int) ≤ 1472 := by omega
    have hnc : n ≤ c := by omega
    clear hs hl h hn h1
    generalize bs.take 300 = t at *
    rcases hz with ⟨hlt, hz⟩ | ⟨hz, hz'⟩
    · have HZ := Lib.hid hz
      clear hz
      go_enter Try.func7, Try.ntmps7
      go_wp2_with fail
      refine (bytes_n A t 300 c _ HZ.out hs' (by rw [HZ.out]; omega)).mono ?_
      rintro e w' ⟨A', c', rfl, ho, hb⟩
      go_wp2_with fail
      go_ret
      exact ⟨A', c', rfl, ho, hb⟩
    · have HZ := Lib.hid hz'
      clear hz'
      go_enter Try.func7, Try.ntmps7
      go_wp2_with fail
      refine (bytes_n A t _ c _ HZ.out hs' (by rw [HZ.out]; omega)).mono ?_
      rintro e w' ⟨A', c', rfl, ho, hb⟩
      go_wp2_with fail
      go_ret
      exact ⟨A', c', rfl, ho, hb⟩
end Go.Proofs.Ytnphhikbdffmpaa
