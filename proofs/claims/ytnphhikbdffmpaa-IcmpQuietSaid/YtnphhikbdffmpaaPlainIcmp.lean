/-
  The plain theory of messages: what is built is right, and reads back.
-/
import Derived.Test.YtnphhikbdffmpaaRow
import Derived.Test.YtnphhikbdffmpaaPlainSum
namespace Go.Proofs.Ytnphhikbdffmpaa

theorem right_law (t : List UInt8) (k s : Nat) (hk : k % 2 = 0) (h : k + 1 < t.length) (hs : s = 65535 - rnd (words t)) (hz0 : t.getD k 0 = 0) (hz1 : t.getD (k + 1) 0 = 0) :
    rnd (words ((t.set k (UInt8.ofNat (s / 256))).set (k + 1) (UInt8.ofNat (s % 256)))) = 65535 := by
  have := words_set t k (UInt8.ofNat (s / 256)) (UInt8.ofNat (s % 256)) hk h
  rw [hz0, hz1, UInt8.toNat_ofNat', UInt8.toNat_ofNat'] at this
  simp at this
  rw [this, show 256 * (s / 256 % 256) + s % 256 = s by omega, hs, rnd_right]

def head4 (r : Int) : List UInt8 := [u8 (r / 16777216 % 256), u8 (r / 65536 % 256), u8 (r / 256 % 256), u8 (r % 256)]
/-- A message's bytes, with 0 for the sum. -/
def msg0 (k c r : Int) (data : List UInt8) : List UInt8 := [u8 k, u8 c, 0, 0] ++ head4 r ++ data
def sumMsg (k c r : Int) (data : List UInt8) : Nat := 65535 - rnd (words (msg0 k c r data))
def msg (k c r : Int) (data : List UInt8) : List UInt8 := ((msg0 k c r data).set 2 (u8 (sumMsg k c r data / 256 : Nat))).set 3 (u8 (sumMsg k c r data % 256 : Nat))
def restOf (bs : List UInt8) : Int := (((bs.getD 4 0).toNat * 16777216 + (bs.getD 5 0).toNat * 65536 + (bs.getD 6 0).toNat * 256 + (bs.getD 7 0).toNat : Nat) : Int)
/-- Can bytes be read as a message? -/
def okMsg (bs : List UInt8) : Prop := 8 ≤ bs.length ∧ rnd (words bs) = 65535
instance (bs : List UInt8) : Decidable (okMsg bs) := by unfold okMsg; infer_instance

theorem msg_length (k c r : Int) (d : List UInt8) : (msg k c r d).length = 8 + d.length := by
  simp [msg, msg0, head4]; omega
theorem msg_right (k c r : Int) (d : List UInt8) : rnd (words (msg k c r d)) = 65535 :=
  right_law (msg0 k c r d) 2 (sumMsg k c r d) rfl (by simp [msg0, head4]) rfl rfl rfl
theorem msg_ok (k c r : Int) (d : List UInt8) : okMsg (msg k c r d) := ⟨by rw [msg_length]; omega, msg_right k c r d⟩
theorem msg_kind (k c r : Int) (d : List UInt8) : (msg k c r d).getD 0 0 = u8 k := rfl
theorem msg_code (k c r : Int) (d : List UInt8) : (msg k c r d).getD 1 0 = u8 c := rfl
theorem msg_drop (k c r : Int) (d : List UInt8) : (msg k c r d).drop 8 = d := rfl
theorem msg_rest (k c r : Int) (d : List UInt8) (h0 : 0 ≤ r) (h1 : r < 4294967296) : restOf (msg k c r d) = r := by
  have e4 : (msg k c r d).getD 4 0 = u8 (r / 16777216 % 256) := rfl
  have e5 : (msg k c r d).getD 5 0 = u8 (r / 65536 % 256) := rfl
  have e6 : (msg k c r d).getD 6 0 = u8 (r / 256 % 256) := rfl
  have e7 : (msg k c r d).getD 7 0 = u8 (r % 256) := rfl
  have t4 := u8_toNat (r / 16777216 % 256) (by omega) (by omega)
  have t5 := u8_toNat (r / 65536 % 256) (by omega) (by omega)
  have t6 := u8_toNat (r / 256 % 256) (by omega) (by omega)
  have t7 := u8_toNat (r % 256) (by omega) (by omega)
  unfold restOf
  rw [e4, e5, e6, e7]
  omega
theorem restOf_bd (bs : List UInt8) : 0 ≤ restOf bs ∧ restOf bs < 4294967296 := by
  have h4 := (bs.getD 4 0).toNat_lt
  have h5 := (bs.getD 5 0).toNat_lt
  have h6 := (bs.getD 6 0).toNat_lt
  have h7 := (bs.getD 7 0).toNat_lt
  unfold restOf
  omega
end Go.Proofs.Ytnphhikbdffmpaa
