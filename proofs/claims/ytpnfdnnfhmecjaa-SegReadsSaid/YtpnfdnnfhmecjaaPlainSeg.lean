/-
  The plain theory of segments: what is built, what is read. No program in sight.
-/
import Derived.Test.YtpnfdnnfhmecjaaRow
import Derived.Test.YtpnfdnnfhmecjaaPlainSum
namespace Go.Proofs.Ytpnfdnnfhmecjaa
set_option linter.unusedVariables false

def two8 (n : Int) : List UInt8 := [u8 (n / 256 % 256), u8 (n % 256)]
def four8 (n : Int) : List UInt8 := two8 (n / 65536) ++ two8 n
/-- A segment's numbers; its data apart. -/
structure SG where
  from_ : Int
  to_ : Int
  seq : Int
  ack : Int
  flags : Int
  window : Int
  urgent : Int
  greatest : Int
def r16 (n : Int) : Prop := 0 ≤ n ∧ n ≤ 65535
instance (n : Int) : Decidable (r16 n) := by unfold r16; infer_instance
def fitsP (s : SG) : Prop := r16 s.from_ ∧ r16 s.to_ ∧ r16 s.window ∧ r16 s.urgent ∧ r16 s.greatest ∧ 0 ≤ s.flags ∧ s.flags < 64
instance (s : SG) : Decidable (fitsP s) := by unfold fitsP; infer_instance
def words4 (s : SG) : Int := if s.greatest = 0 then 80 else 96
def optsB (s : SG) : List UInt8 := if s.greatest = 0 then [] else [2, 4] ++ two8 s.greatest
def headB (s : SG) (z : List UInt8) : List UInt8 := two8 s.from_ ++ two8 s.to_ ++ four8 s.seq ++ four8 s.ack ++ [u8 (words4 s), u8 s.flags] ++ two8 s.window ++ z ++ two8 s.urgent
/-- A segment's bytes, with 0 for the sum. -/
def seg0 (s : SG) (data : List UInt8) : List UInt8 := headB s [0, 0] ++ optsB s ++ data
/-- The sum of what stands ahead of a segment of n bytes. -/
def pseudo (f t : Int) (k n : Int) : Nat := rnd ((f / 65536 + f % 65536 + (t / 65536 + t % 65536) + k + n % 65536).toNat)
def totalN (f t : Int) (bs : List UInt8) : Nat := rnd (pseudo f t 6 bs.length + words bs)
def sumSeg (f t : Int) (s : SG) (data : List UInt8) : Nat := 65535 - totalN f t (seg0 s data)
def segB (f t : Int) (s : SG) (data : List UInt8) : List UInt8 := ((seg0 s data).set 16 (u8 (sumSeg f t s data / 256 : Nat))).set 17 (u8 (sumSeg f t s data % 256 : Nat))
def segE (s : SG) (n : Nat) : Int := if fitsP s then (if (n : Int) ≤ 65495 then 0 else 3) else 2
def segR (f t : Int) (s : SG) (data : List UInt8) : List UInt8 := if fitsP s ∧ (data.length : Int) ≤ 65495 then segB f t s data else []

theorem head_length (s : SG) (z : List UInt8) (hz : z.length = 2) : (headB s z).length = 20 := by simp [headB, two8, four8, hz]
theorem opts_length (s : SG) : (optsB s).length = if s.greatest = 0 then 0 else 4 := by unfold optsB; split <;> rfl
theorem seg0_length (s : SG) (d : List UInt8) : (seg0 s d).length = 20 + (optsB s).length + d.length := by
  simp only [seg0, List.length_append, head_length s [0, 0] rfl]
theorem segB_length (f t : Int) (s : SG) (d : List UInt8) : (segB f t s d).length = 20 + (optsB s).length + d.length := by
  unfold segB
  rw [List.length_set, List.length_set, seg0_length]
theorem seg0_16 (s : SG) (d : List UInt8) : (seg0 s d).getD 16 0 = 0 ∧ (seg0 s d).getD 17 0 = 0 := by
  have : seg0 s d = headB s [0, 0] ++ (optsB s ++ d) := by simp [seg0]
  rw [this]
  exact ⟨rfl, rfl⟩
theorem seg_right (f t : Int) (s : SG) (d : List UInt8) : totalN f t (segB f t s d) = 65535 := by
  have hl : (segB f t s d).length = (seg0 s d).length := by rw [segB_length, seg0_length]
  have h17 : 16 + 1 < (seg0 s d).length := by rw [seg0_length]; omega
  obtain ⟨z0, z1⟩ := seg0_16 s d
  unfold totalN
  rw [hl]
  unfold segB u8
  have := words_set (seg0 s d) 16 (UInt8.ofNat (((sumSeg f t s d / 256 : Nat) : Int)).toNat) (UInt8.ofNat (((sumSeg f t s d % 256 : Nat) : Int)).toNat) rfl h17
  rw [z0, z1] at this
  simp only [Int.toNat_natCast] at this ⊢
  rw [UInt8.toNat_ofNat', UInt8.toNat_ofNat'] at this
  have hs : sumSeg f t s d = 65535 - rnd (pseudo f t 6 (seg0 s d).length + words (seg0 s d)) := rfl
  have hle := rnd_le (pseudo f t 6 (seg0 s d).length + words (seg0 s d))
  simp at this
  rw [this, show 256 * (sumSeg f t s d / 256 % 256) + sumSeg f t s d % 256 = sumSeg f t s d by omega, hs, ← Nat.add_assoc]
  exact rnd_right _

/-- Two bytes as a number. -/
def get2 (bs : List UInt8) (off : Nat) : Nat := (bs.getD off 0).toNat * 256 + (bs.getD (off + 1) 0).toNat
def get4 (bs : List UInt8) (off : Nat) : Nat := get2 bs off * 65536 + get2 bs (off + 2)
theorem get2_bd (bs : List UInt8) (off : Nat) : get2 bs off < 65536 := by
  have := (bs.getD off 0).toNat_lt
  have := (bs.getD (off + 1) 0).toNat_lt
  unfold get2
  omega
theorem get4_bd (bs : List UInt8) (off : Nat) : get4 bs off < 4294967296 := by
  have := get2_bd bs off
  have := get2_bd bs (off + 2)
  unfold get4
  omega
/-- The greatest segment that options tell; none: they do not fit. -/
def gre (n : Nat) (o : List UInt8) : Option Nat :=
  match o with
  | [] => some n
  | x :: r =>
    if x.toNat = 0 then some n
    else if x.toNat = 1 then gre n r
    else if r.length = 0 ∨ (r.getD 0 0).toNat < 2 ∨ r.length + 1 < (r.getD 0 0).toNat then none
    else if x.toNat = 2 then (if (r.getD 0 0).toNat = 4 then gre (get2 r 1) (r.drop 3) else none)
    else gre n (r.drop ((r.getD 0 0).toNat - 1))
termination_by o.length
decreasing_by all_goals simp; try omega
def sizeOf_ (bs : List UInt8) : Nat := 4 * ((bs.getD 12 0).toNat / 16)
def optsOf (bs : List UInt8) : List UInt8 := (bs.take (sizeOf_ bs)).drop 20
/-- Can bytes be read as a segment? -/
def okHead (f t : Int) (bs : List UInt8) : Prop := 20 ≤ bs.length ∧ 20 ≤ sizeOf_ bs ∧ sizeOf_ bs ≤ bs.length ∧ totalN f t bs = 65535
instance (f t : Int) (bs : List UInt8) : Decidable (okHead f t bs) := by unfold okHead; infer_instance
def sgOf (bs : List UInt8) (m : Nat) : SG := ⟨get2 bs 0, get2 bs 2, get4 bs 4, get4 bs 8, ((bs.getD 13 0).toNat % 64 : Nat), get2 bs 14, get2 bs 18, m⟩
def sg0 : SG := ⟨0, 0, 0, 0, 0, 0, 0, 0⟩
def readS (f t : Int) (bs : List UInt8) : Option (SG × List UInt8) := if okHead f t bs then (gre 0 (optsOf bs)).map fun m => (sgOf bs m, bs.drop (sizeOf_ bs)) else none

theorem get2_two8 (n : Int) (h0 : 0 ≤ n) (h1 : n < 65536) (a r : List UInt8) : (get2 (a ++ (two8 n ++ r)) a.length : Int) = n := by
  have e0 : (a ++ (two8 n ++ r)).getD a.length 0 = u8 (n / 256 % 256) := by simp [List.getD_eq_getElem?_getD, two8]
  have e1 : (a ++ (two8 n ++ r)).getD (a.length + 1) 0 = u8 (n % 256) := by simp [List.getD_eq_getElem?_getD, two8]
  have t0 := u8_toNat (n / 256 % 256) (by omega) (by omega)
  have t1 := u8_toNat (n % 256) (by omega) (by omega)
  unfold get2
  rw [e0, e1]
  omega
end Go.Proofs.Ytpnfdnnfhmecjaa
