/-
  The plain theory of segments, on: what was built is read back.
-/
import Derived.Test.YtpnfdnnfhmecjaaPlainSeg
namespace Go.Proofs.Ytpnfdnnfhmecjaa
set_option linter.unusedVariables false

theorem segB_form (f t : Int) (s : SG) (d : List UInt8) : segB f t s d = headB s [u8 (sumSeg f t s d / 256 : Nat), u8 (sumSeg f t s d % 256 : Nat)] ++ (optsB s ++ d) := by
  unfold segB seg0
  rw [List.append_assoc]
  rfl
theorem u8_two (n : Int) (h0 : 0 ≤ n) (h1 : n < 65536) : (((u8 (n / 256 % 256)).toNat * 256 + (u8 (n % 256)).toNat : Nat) : Int) = n := by
  have t0 := u8_toNat (n / 256 % 256) (by omega) (by omega)
  have t1 := u8_toNat (n % 256) (by omega) (by omega)
  omega
theorem words4_u8 (s : SG) : ((u8 (words4 s)).toNat : Int) = words4 s := u8_toNat _ (by unfold words4; split <;> omega) (by unfold words4; split <;> omega)
theorem segB_size (f t : Int) (s : SG) (d : List UInt8) : sizeOf_ (segB f t s d) = 20 + (optsB s).length := by
  have h12 : (segB f t s d).getD 12 0 = u8 (words4 s) := by rw [segB_form]; rfl
  have hw := words4_u8 s
  have ho := opts_length s
  have hv : words4 s = if s.greatest = 0 then 80 else 96 := rfl
  unfold sizeOf_
  rw [h12, ho]
  rw [hv] at hw
  have hg : words4 s = words4 s := rfl
  generalize hW : (u8 (words4 s)).toNat = W
  rw [hv] at hW
  rw [hW] at hw
  by_cases h : s.greatest = 0
  · rw [if_pos h] at hw ⊢; omega
  · rw [if_neg h] at hw ⊢; omega
theorem segB_opts (f t : Int) (s : SG) (d : List UInt8) : optsOf (segB f t s d) = optsB s := by
  unfold optsOf
  rw [segB_size, segB_form]
  have hh := head_length s [u8 (sumSeg f t s d / 256 : Nat), u8 (sumSeg f t s d % 256 : Nat)] rfl
  generalize headB s [u8 (sumSeg f t s d / 256 : Nat), u8 (sumSeg f t s d % 256 : Nat)] = H at *
  rw [List.take_append, List.drop_append, hh, List.take_of_length_le (by omega), List.drop_eq_nil_of_le (by omega), List.nil_append]
  simp [hh]
theorem segB_data (f t : Int) (s : SG) (d : List UInt8) : (segB f t s d).drop (sizeOf_ (segB f t s d)) = d := by
  rw [segB_size, segB_form]
  have hh := head_length s [u8 (sumSeg f t s d / 256 : Nat), u8 (sumSeg f t s d % 256 : Nat)] rfl
  generalize headB s [u8 (sumSeg f t s d / 256 : Nat), u8 (sumSeg f t s d % 256 : Nat)] = H at *
  rw [List.drop_append, hh, List.drop_eq_nil_of_le (by omega), List.nil_append, show 20 + (optsB s).length - 20 = (optsB s).length by omega, List.drop_left]
theorem gre_opts (s : SG) (h0 : 0 ≤ s.greatest) (h1 : s.greatest ≤ 65535) : gre 0 (optsB s) = some s.greatest.toNat := by
  unfold optsB
  split
  · rename_i h
    rw [gre, h]
    rfl
  · rw [show ([2, 4] ++ two8 s.greatest : List UInt8) = 2 :: 4 :: two8 s.greatest from rfl]
    rw [gre]
    have e : get2 (4 :: two8 s.greatest) 1 = s.greatest.toNat := by
      have := u8_two s.greatest h0 (by omega)
      show (u8 (s.greatest / 256 % 256)).toNat * 256 + (u8 (s.greatest % 256)).toNat = _
      omega
    have d : (4 :: two8 s.greatest : List UInt8).drop 3 = [] := rfl
    rw [if_neg (by decide), if_neg (by decide), if_neg (by show ¬ (3 = 0 ∨ (4 : UInt8).toNat < 2 ∨ 3 + 1 < (4 : UInt8).toNat); decide), if_pos (by decide), if_pos (by rfl), e, d, gre]
theorem seg_back (f t : Int) (s : SG) (d : List UInt8) (h : fitsP s) (s0 : 0 ≤ s.seq) (s1 : s.seq < 4294967296) (k0 : 0 ≤ s.ack) (k1 : s.ack < 4294967296) : readS f t (segB f t s d) = some (s, d) := by
  obtain ⟨⟨a0, a1⟩, ⟨b0, b1⟩, ⟨c0, c1⟩, ⟨d0, d1⟩, ⟨g0, g1⟩, l0, l1⟩ := h
  have hl := segB_length f t s d
  have hz := segB_size f t s d
  have hok : okHead f t (segB f t s d) := ⟨by omega, by omega, by omega, seg_right f t s d⟩
  rw [readS, if_pos hok, segB_opts, gre_opts s g0 g1, segB_data]
  have hs : sgOf (segB f t s d) s.greatest.toNat = s := by
    have p0 := u8_two s.from_ a0 (by omega)
    have p1 := u8_two s.to_ b0 (by omega)
    have p2 := u8_two (s.seq / 65536) (by omega) (by omega)
    have p3 := u8_two (s.seq % 65536) (by omega) (by omega)
    have p4 := u8_two (s.ack / 65536) (by omega) (by omega)
    have p5 := u8_two (s.ack % 65536) (by omega) (by omega)
    have p6 := u8_two s.window c0 (by omega)
    have p7 := u8_two s.urgent d0 (by omega)
    have p8 := u8_toNat s.flags l0 (by omega)
    rw [show s.seq % 65536 / 256 % 256 = s.seq / 256 % 256 by omega, show s.seq % 65536 % 256 = s.seq % 256 by omega] at p3
    rw [show s.ack % 65536 / 256 % 256 = s.ack / 256 % 256 by omega, show s.ack % 65536 % 256 = s.ack % 256 by omega] at p5
    have e0 : get2 (segB f t s d) 0 = (u8 (s.from_ / 256 % 256)).toNat * 256 + (u8 (s.from_ % 256)).toNat := by rw [segB_form]; rfl
    have e2 : get2 (segB f t s d) 2 = (u8 (s.to_ / 256 % 256)).toNat * 256 + (u8 (s.to_ % 256)).toNat := by rw [segB_form]; rfl
    have e4 : get2 (segB f t s d) 4 = (u8 (s.seq / 65536 / 256 % 256)).toNat * 256 + (u8 (s.seq / 65536 % 256)).toNat := by rw [segB_form]; rfl
    have e6 : get2 (segB f t s d) (4 + 2) = (u8 (s.seq / 256 % 256)).toNat * 256 + (u8 (s.seq % 256)).toNat := by rw [segB_form]; rfl
    have e8 : get2 (segB f t s d) 8 = (u8 (s.ack / 65536 / 256 % 256)).toNat * 256 + (u8 (s.ack / 65536 % 256)).toNat := by rw [segB_form]; rfl
    have e10 : get2 (segB f t s d) (8 + 2) = (u8 (s.ack / 256 % 256)).toNat * 256 + (u8 (s.ack % 256)).toNat := by rw [segB_form]; rfl
    have e13 : (segB f t s d).getD 13 0 = u8 s.flags := by rw [segB_form]; rfl
    have e14 : get2 (segB f t s d) 14 = (u8 (s.window / 256 % 256)).toNat * 256 + (u8 (s.window % 256)).toNat := by rw [segB_form]; rfl
    have e18 : get2 (segB f t s d) 18 = (u8 (s.urgent / 256 % 256)).toNat * 256 + (u8 (s.urgent % 256)).toNat := by rw [segB_form]; rfl
    have q0 : ((get2 (segB f t s d) 0 : Nat) : Int) = s.from_ := by rw [e0]; exact p0
    have q2 : ((get2 (segB f t s d) 2 : Nat) : Int) = s.to_ := by rw [e2]; exact p1
    have q4 : ((get2 (segB f t s d) 4 : Nat) : Int) = s.seq / 65536 := by rw [e4]; exact p2
    have q6 : ((get2 (segB f t s d) (4 + 2) : Nat) : Int) = s.seq % 65536 := by rw [e6]; exact p3
    have q8 : ((get2 (segB f t s d) 8 : Nat) : Int) = s.ack / 65536 := by rw [e8]; exact p4
    have q10 : ((get2 (segB f t s d) (8 + 2) : Nat) : Int) = s.ack % 65536 := by rw [e10]; exact p5
    have q14 : ((get2 (segB f t s d) 14 : Nat) : Int) = s.window := by rw [e14]; exact p6
    have q18 : ((get2 (segB f t s d) 18 : Nat) : Int) = s.urgent := by rw [e18]; exact p7
    have q13 : ((((segB f t s d).getD 13 0).toNat : Nat) : Int) = s.flags := by rw [e13]; exact p8
    clear e0 e2 e4 e6 e8 e10 e13 e14 e18 p0 p1 p2 p3 p4 p5 p6 p7 p8 hl hz hok
    unfold sgOf get4
    generalize get2 (segB f t s d) 0 = n0 at *
    generalize get2 (segB f t s d) 2 = n2 at *
    generalize get2 (segB f t s d) 4 = n4 at *
    generalize get2 (segB f t s d) (4 + 2) = n6 at *
    generalize get2 (segB f t s d) 8 = n8 at *
    generalize get2 (segB f t s d) (8 + 2) = n10 at *
    generalize get2 (segB f t s d) 14 = n14 at *
    generalize get2 (segB f t s d) 18 = n18 at *
    generalize ((segB f t s d).getD 13 0).toNat = n13 at *
    obtain ⟨fr, to_, sq, ak, fl, wi, ur, gr⟩ := s
    simp only at q0 q2 q4 q6 q8 q10 q13 q14 q18 g0 l0 l1 ⊢
    rw [SG.mk.injEq]
    exact ⟨q0, q2, by omega, by omega, by omega, q14, q18, by omega⟩
  show some (sgOf (segB f t s d) s.greatest.toNat, d) = _
  rw [hs]

def wt (k : Nat) : Nat := if k % 2 = 0 then 256 else 1
theorem wt_two (k : Nat) : wt (k + 2) = wt k := by unfold wt; rw [show (k + 2) % 2 = k % 2 by omega]
theorem words_set1 : ∀ (l : List UInt8) (k : Nat) (y : UInt8), k < l.length → words (l.set k y) + wt k * (l.getD k 0).toNat = words l + wt k * y.toNat
  | [], k, y, h => by simp at h
  | [a], 0, y, _ => by show 256 * y.toNat + 256 * a.toNat = 256 * a.toNat + 256 * y.toNat; omega
  | [a], k + 1, y, h => by simp at h
  | a :: b :: r, 0, y, _ => by show 256 * y.toNat + b.toNat + words r + 256 * a.toNat = 256 * a.toNat + b.toNat + words r + 256 * y.toNat; omega
  | a :: b :: r, 1, y, _ => by show 256 * a.toNat + y.toNat + words r + 1 * b.toNat = 256 * a.toNat + b.toNat + words r + 1 * y.toNat; omega
  | a :: b :: r, k + 2, y, h => by
    have := words_set1 r k y (by simp at h; omega)
    rw [wt_two]
    show 256 * a.toNat + b.toNat + words (r.set k y) + wt k * (r.getD k 0).toNat = 256 * a.toNat + b.toNat + words r + wt k * y.toNat
    omega
theorem rnd_full (n : Nat) : rnd n = 65535 ↔ 0 < n ∧ n % 65535 = 0 := by unfold rnd; split <;> omega
theorem total_turned (f t : Int) (l : List UInt8) (k : Nat) (y : UInt8) (hk : k < l.length) (hy : y ≠ l.getD k 0) (h : totalN f t l = 65535) : totalN f t (l.set k y) ≠ 65535 := by
  unfold totalN at h ⊢
  rw [List.length_set]
  have hw := words_set1 l k y hk
  have hx := (l.getD k 0).toNat_lt
  have hy2 := y.toNat_lt
  have hne : y.toNat ≠ (l.getD k 0).toNat := fun e => hy (UInt8.toNat_inj.1 e)
  generalize (l.getD k 0).toNat = x at *
  generalize y.toNat = y' at *
  rw [rnd_full] at h
  rw [Ne, rnd_full]
  unfold wt at hw
  split at hw <;> omega
theorem getD_set_ne (l : List UInt8) (k j : Nat) (y : UInt8) (h : k ≠ j) : (l.set k y).getD j 0 = l.getD j 0 := by
  simp only [List.getD_eq_getElem?_getD, List.getElem?_set_ne h]
/-- A byte turned, not that of the head's words: it is refused. -/
theorem seg_finds (f t : Int) (s : SG) (d : List UInt8) (k : Nat) (y : UInt8) (hk : k < (segB f t s d).length) (hy : y ≠ (segB f t s d).getD k 0) : readS f t ((segB f t s d).set k y) = none := by
  rw [readS, if_neg]
  intro h
  exact total_turned f t _ k y hk hy (seg_right f t s d) h.2.2.2
end Go.Proofs.Ytpnfdnnfhmecjaa
