/-
  The plain theory of frames, addresses and their texts. No program in sight.
-/
import Derived.Lib.Bytealg
namespace Go.Proofs.Ythchjfkbaocoiaa

/-- A digit's value; below 0: it is none. -/
def hexv (c : UInt8) : Int :=
  if 48 ≤ c.toNat ∧ c.toNat ≤ 57 then c.toNat - 48 else if 97 ≤ c.toNat ∧ c.toNat ≤ 102 then c.toNat - 87 else if 65 ≤ c.toNat ∧ c.toNat ≤ 70 then c.toNat - 55 else -1
def digs : List UInt8 := [48, 49, 50, 51, 52, 53, 54, 55, 56, 57, 97, 98, 99, 100, 101, 102]
/-- A small digit. -/
def dig (n : Nat) : UInt8 := digs.getD n 0
/-- A digit made small. -/
def low (c : UInt8) : UInt8 := if 65 ≤ c.toNat ∧ c.toNat ≤ 70 then UInt8.ofNat (c.toNat + 32) else c

theorem all_u8 (p : UInt8 → Bool) (h : (List.range 256).all (fun n => p (UInt8.ofNat n)) = true) (c : UInt8) : p c = true := by
  rw [List.all_eq_true] at h
  have := h c.toNat (List.mem_range.2 c.toNat_lt)
  rwa [UInt8.ofNat_toNat] at this
theorem hexv_index (c : UInt8) : Lib.indexByte digs (low c) = hexv c := by
  have := all_u8 (fun c => decide (Lib.indexByte digs (low c) = hexv c)) (by decide +kernel) c
  simpa using this
theorem hexv_bd (c : UInt8) : -1 ≤ hexv c ∧ hexv c ≤ 15 := by
  have h := c.toNat_lt
  unfold hexv
  split
  · omega
  · split
    · omega
    · split <;> omega
theorem dig_hexv (c : UInt8) (h : 0 ≤ hexv c) : dig (hexv c).toNat = low c := by
  have : decide (0 ≤ hexv c → dig (hexv c).toNat = low c) = true := all_u8 (fun c => decide (0 ≤ hexv c → dig (hexv c).toNat = low c)) (by decide +kernel) c
  exact of_decide_eq_true this h
theorem hexv_dig (n : Nat) (h : n < 16) : hexv (dig n) = n := by
  have : ∀ n : Fin 16, hexv (dig n.val) = n.val := by decide
  exact this ⟨n, h⟩
theorem low_dig (n : Nat) (h : n < 16) : low (dig n) = dig n := by
  have : ∀ n : Fin 16, low (dig n.val) = dig n.val := by decide
  exact this ⟨n, h⟩

/-- The two digits of a byte. -/
def pair (x : UInt8) : List UInt8 := [dig (x.toNat / 16), dig (x.toNat % 16)]
/-- An address as a text. -/
def text : List UInt8 → List UInt8
  | [] => []
  | [x] => pair x
  | x :: r => pair x ++ 58 :: text r
/-- Is the byte at i of a text as it should be? -/
def fine (s : List UInt8) (i : Nat) : Bool := if i % 3 = 2 then s.getD i 0 == 58 else decide (0 ≤ hexv (s.getD i 0))
def okText (s : List UInt8) : Prop := s.length = 17 ∧ (List.range 17).all (fine s) = true
instance (s : List UInt8) : Decidable (okText s) := by unfold okText; infer_instance
def macAt (s : List UInt8) (k : Nat) : UInt8 := UInt8.ofNat (16 * (hexv (s.getD (3 * k) 0)).toNat + (hexv (s.getD (3 * k + 1) 0)).toNat)
def macOf (s : List UInt8) : List UInt8 := [macAt s 0, macAt s 1, macAt s 2, macAt s 3, macAt s 4, macAt s 5]
def zero6 : List UInt8 := [0, 0, 0, 0, 0, 0]
/-- What a text is read as, and the error. -/
def parseM (s : List UInt8) : List UInt8 := if okText s then macOf s else zero6
def parseE (s : List UInt8) : Int := if okText s then 0 else 50

theorem all17 (p : Nat → Bool) : (List.range 17).all p = true ↔ (p 0 = true ∧ p 1 = true ∧ p 2 = true ∧ p 3 = true ∧ p 4 = true ∧ p 5 = true ∧ p 6 = true ∧ p 7 = true ∧ p 8 = true ∧ p 9 = true ∧ p 10 = true ∧ p 11 = true ∧ p 12 = true ∧ p 13 = true ∧ p 14 = true ∧ p 15 = true ∧ p 16 = true) := by
  have e : List.range 17 = [0, 1, 2, 3, 4, 5, 6, 7, 8, 9, 10, 11, 12, 13, 14, 15, 16] := by decide
  rw [e]
  simp
theorem text_six (a b c d e f : UInt8) : text [a, b, c, d, e, f] = [dig (a.toNat / 16), dig (a.toNat % 16), 58, dig (b.toNat / 16), dig (b.toNat % 16), 58, dig (c.toNat / 16), dig (c.toNat % 16), 58, dig (d.toNat / 16), dig (d.toNat % 16), 58, dig (e.toNat / 16), dig (e.toNat % 16), 58, dig (f.toNat / 16), dig (f.toNat % 16)] := rfl
theorem mac_pair (x : UInt8) : UInt8.ofNat (16 * (hexv (dig (x.toNat / 16))).toNat + (hexv (dig (x.toNat % 16))).toNat) = x := by
  have := x.toNat_lt
  rw [hexv_dig _ (by omega), hexv_dig _ (by omega)]
  rw [← UInt8.toNat_inj, UInt8.toNat_ofNat']
  omega
theorem pair_mac (s : List UInt8) (k : Nat) (h1 : 0 ≤ hexv (s.getD (3 * k) 0)) (h2 : 0 ≤ hexv (s.getD (3 * k + 1) 0)) : pair (macAt s k) = [low (s.getD (3 * k) 0), low (s.getD (3 * k + 1) 0)] := by
  have b1 := hexv_bd (s.getD (3 * k) 0)
  have b2 := hexv_bd (s.getD (3 * k + 1) 0)
  have e : (macAt s k).toNat = 16 * (hexv (s.getD (3 * k) 0)).toNat + (hexv (s.getD (3 * k + 1) 0)).toNat := by
    unfold macAt
    rw [UInt8.toNat_ofNat']
    omega
  unfold pair
  rw [e, show (16 * (hexv (s.getD (3 * k) 0)).toNat + (hexv (s.getD (3 * k + 1) 0)).toNat) / 16 = (hexv (s.getD (3 * k) 0)).toNat by omega, show (16 * (hexv (s.getD (3 * k) 0)).toNat + (hexv (s.getD (3 * k + 1) 0)).toNat) % 16 = (hexv (s.getD (3 * k + 1) 0)).toNat by omega,
    dig_hexv _ h1, dig_hexv _ h2]
theorem parse_text (m : List UInt8) (h : m.length = 6) : okText (text m) ∧ macOf (text m) = m := by
  match m, h with
  | [a, b, c, d, e, f], _ =>
    have d1 : ∀ x : UInt8, 0 ≤ hexv (dig (x.toNat / 16)) := fun x => by have := x.toNat_lt; rw [hexv_dig _ (by omega)]; omega
    have d2 : ∀ x : UInt8, 0 ≤ hexv (dig (x.toNat % 16)) := fun x => by have := x.toNat_lt; rw [hexv_dig _ (by omega)]; omega
    refine ⟨⟨by rw [text_six]; rfl, ?_⟩, ?_⟩
    · rw [all17, text_six]
      simp [fine, d1, d2]
    · rw [text_six]
      show [UInt8.ofNat (16 * (hexv (dig (a.toNat / 16))).toNat + (hexv (dig (a.toNat % 16))).toNat), UInt8.ofNat (16 * (hexv (dig (b.toNat / 16))).toNat + (hexv (dig (b.toNat % 16))).toNat), UInt8.ofNat (16 * (hexv (dig (c.toNat / 16))).toNat + (hexv (dig (c.toNat % 16))).toNat), UInt8.ofNat (16 * (hexv (dig (d.toNat / 16))).toNat + (hexv (dig (d.toNat % 16))).toNat), UInt8.ofNat (16 * (hexv (dig (e.toNat / 16))).toNat + (hexv (dig (e.toNat % 16))).toNat), UInt8.ofNat (16 * (hexv (dig (f.toNat / 16))).toNat + (hexv (dig (f.toNat % 16))).toNat)] = _
      rw [mac_pair, mac_pair, mac_pair, mac_pair, mac_pair, mac_pair]
theorem text_parse (s : List UInt8) (h : okText s) : text (macOf s) = s.map low := by
  obtain ⟨hl, ha⟩ := h
  rw [all17] at ha
  have l58 : low 58 = 58 := by decide
  have e : text (macOf s) = pair (macAt s 0) ++ 58 :: (pair (macAt s 1) ++ 58 :: (pair (macAt s 2) ++ 58 :: (pair (macAt s 3) ++ 58 :: (pair (macAt s 4) ++ 58 :: pair (macAt s 5))))) := rfl
  rw [e]
  clear e
  unfold fine at ha
  simp at ha
  obtain ⟨p0, p1, p2, p3, p4, p5, p6, p7, p8, p9, p10, p11, p12, p13, p14, p15, p16⟩ := ha
  rw [pair_mac s 0, pair_mac s 1, pair_mac s 2, pair_mac s 3, pair_mac s 4, pair_mac s 5]
  · match s, hl with
    | [x0, x1, x2, x3, x4, x5, x6, x7, x8, x9, x10, x11, x12, x13, x14, x15, x16], _ =>
      simp at p2 p5 p8 p11 p14
      subst p2 p5 p8 p11 p14
      simp [l58]
  all_goals simpa using (by assumption)
theorem mac_length (s : List UInt8) : (parseM s).length = 6 := by unfold parseM; split <;> rfl
end Go.Proofs.Ythchjfkbaocoiaa
