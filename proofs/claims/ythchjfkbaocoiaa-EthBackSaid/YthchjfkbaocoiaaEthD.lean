/-
  The walk of the reference's Parse.
-/
import Derived.Test.YthchjfkbaocoiaaEthC
namespace Go.Proofs.Ythchjfkbaocoiaa
open Go.RowKit
set_option linter.unusedVariables false

def rpv (l : List UInt8) (n j : Nat) : UInt8 := if 3 * j + 1 < n then macAt l j else if 3 * j < n then UInt8.ofNat (hexv (l.getD (3 * j) 0)).toNat else 0
def rpart (l : List UInt8) (n : Nat) : List UInt8 := (List.range 6).map fun j => rpv l n j
theorem rpart_zero (l : List UInt8) : rpart l 0 = zero6 := by simp [rpart, rpv, zero6, List.range, List.range.loop]
theorem rpart_17 (l : List UInt8) : rpart l 17 = macOf l := by simp [rpart, rpv, macOf, List.range, List.range.loop]
theorem rpart_colon (l : List UInt8) (n : Nat) (h : n % 3 = 2) : rpart l (n + 1) = rpart l n := by
  unfold rpart
  apply List.map_congr_left
  intro j _
  unfold rpv
  by_cases h1 : 3 * j + 1 < n
  · rw [if_pos h1, if_pos (by omega)]
  · rw [if_neg h1, if_neg (by omega)]
    by_cases h2 : 3 * j < n
    · rw [if_pos h2, if_pos (by omega)]
    · rw [if_neg h2, if_neg (by omega)]
theorem rpart_set (l : List UInt8) (n q : Nat) (hq : q < 6) (h : n = 3 * q ∨ n = 3 * q + 1) : (rpart l n).set q (rpv l (n + 1) q) = rpart l (n + 1) := by
  apply List.ext_getElem
  · simp [rpart]
  · intro i h1 h2
    simp [rpart] at h1 h2
    rw [List.getElem_set]
    simp only [rpart, List.getElem_map, List.getElem_range]
    by_cases e : q = i
    · subst e; simp
    · rw [if_neg e]
      unfold rpv
      by_cases g1 : 3 * i + 1 < n
      · have k1 : 3 * i + 1 < n + 1 := by omega
        simp only [g1, k1, if_true]
      · have k1 : ¬ 3 * i + 1 < n + 1 := by omega
        by_cases g2 : 3 * i < n
        · have k2 : 3 * i < n + 1 := by omega
          simp only [g1, k1, g2, k2, if_true, if_false]
        · have k2 : ¬ 3 * i < n + 1 := by omega
          simp only [g1, k1, g2, k2, if_false]
theorem rpart_get (l : List UInt8) (n q : Nat) (hq : q < 6) : (macv (rpart l n))[q]? = some (.int .u8 ((rpv l n q).toNat : Int)) := by
  simp [macv, rpart, hq, bval]
theorem rpv_int0 (l : List UInt8) (q : Nat) (h0 : 0 ≤ hexv (l.getD (3 * q) 0)) (h1 : hexv (l.getD (3 * q) 0) ≤ 15) : ((rpv l (3 * q) q).toNat : Int) = 0 ∧ hexv (l.getD (3 * q) 0) = ((rpv l (3 * q + 1) q).toNat : Int) := by
  have e0 : rpv l (3 * q) q = 0 := by rw [rpv, if_neg (by omega), if_neg (by omega)]
  have e1 : (rpv l (3 * q + 1) q).toNat = (hexv (l.getD (3 * q) 0)).toNat := by
    rw [rpv, if_neg (by omega), if_pos (by omega), UInt8.toNat_ofNat']
    omega
  rw [e0, e1]
  exact ⟨rfl, by omega⟩
theorem rpv_int1 (l : List UInt8) (q : Nat) (x0 : 0 ≤ hexv (l.getD (3 * q) 0)) (x1 : hexv (l.getD (3 * q) 0) ≤ 15) (h0 : 0 ≤ hexv (l.getD (3 * q + 1) 0)) (h1 : hexv (l.getD (3 * q + 1) 0) ≤ 15) :
    ((rpv l (3 * q + 1) q).toNat : Int) = hexv (l.getD (3 * q) 0) ∧ 16 * hexv (l.getD (3 * q) 0) + hexv (l.getD (3 * q + 1) 0) = ((rpv l (3 * q + 2) q).toNat : Int) := by
  have e1 := (rpv_int0 l q x0 x1).2
  have e2 : (rpv l (3 * q + 2) q).toNat = 16 * (hexv (l.getD (3 * q) 0)).toNat + (hexv (l.getD (3 * q + 1) 0)).toNat := by
    rw [rpv, if_pos (by omega), macAt, UInt8.toNat_ofNat']
    omega
  rw [e2]
  exact ⟨e1.symm, by omega⟩

structure RX (w : World) (l : List UInt8) (n : Nat) (w' : World) : Prop where
  res : Blk w' w.heap.size 23 (macv zero6)
  m : Blk w' (w.heap.size + 1) 23 (macv (rpart l n))
  bel : Below w.heap.size w w'
theorem RX.put {w wr : World} {l : List UInt8} {n q : Nat} (h : RX w l n wr) (hq : q < 6) (hn : n = 3 * q ∨ n = 3 * q + 1) (v : Int) (hv : v = ((rpv l (n + 1) q).toNat : Int)) : RX w l (n + 1) (wr.setCell ⟨w.heap.size + 1, q, none⟩ (.int .u8 v)) := by
  have h1 := h.m.set q (.int .u8 v)
  rw [set_macv _ _ v (rpv l (n + 1) q) hv, rpart_set l n q hq hn] at h1
  exact ⟨h.res.far (p := ⟨w.heap.size + 1, q, none⟩) (by simp) _, h1, h.bel.setCell (p := ⟨w.heap.size + 1, q, none⟩) (by simp) _⟩

set_option maxHeartbeats 4000000 in
set_option maxRecDepth 100000 in
theorem rparse_any (s : ByteArray) (w : World) (hs : s.size ≤ 9223372036854775807) :
    Calls Try.prog 11 #[.string s] w (Parsed s.data.toList w) := by
  have hpx : RX w s.data.toList 0 ((w.alloc (.cells (macv zero6) 23)).alloc (.cells (macv zero6) 23)) :=
    ⟨blk_old (blk_new w _ _) _, by rw [rpart_zero]; have := blk_new (w.alloc (.cells (macv zero6) 23)) 23 (macv zero6); simpa using this, ((Below.refl _ _).alloc (Nat.le_refl _) _).alloc (by simp) _⟩
  have HPX := Lib.hid hpx
  clear hpx
  have hsz : s.data.toList.length = s.size := rfl
  have HSZ := Lib.hid hsz
  clear hsz
  by_cases hl : s.size = 17
  case neg =>
    have b1 : ((s.size : Int) != 17) = true := by simp; omega
    have NO : Hid (¬ okText s.data.toList) := fun hh => hl (HSZ.out.symm.trans hh.1)
    have hb : Below w.heap.size w ((w.alloc (.cells (macv zero6) 23)).alloc (.cells (macv zero6) 23)) := HPX.out.bel
    unfold macv at hb
    simp only [zero6, List.map_cons, List.map_nil, bval] at hb
    have HB := Lib.hid hb
    clear hl hb HPX
    go_enter Try.func11, Try.ntmps11
    go_wp2_with fail
    exact bodyPost_ret (v := .tuple #[.agg (macv zero6), .int .i64 50]) (by simp [results, Try.results11, go_sem, macv, zero6, bval]) rfl ⟨by rw [parseM, parseE, if_neg NO.out, if_neg NO.out], HB.out⟩
  case pos =>
    have b1 : ((s.size : Int) != 17) = false := by rw [hl]; rfl
    have HL := Lib.hid hl
    clear hl
    go_enter Try.func11, Try.ntmps11
    go_wp2_with fail
    go_loopw [5] (fun i wr => ∃ n : Nat, n ≤ 17 ∧ i = .int .i64 n ∧ upto s.data.toList n ∧ RX w s.data.toList n wr) (fun i _ => 17 - (intOf i).toNat)
    case atStart => exact ⟨0, by omega, rfl, rfl, HPX.out⟩
    case round =>
      obtain ⟨n, hn, rfl, hup, hx⟩ := hrel
      have HU := Lib.hid hup
      have HX := Lib.hid hx
      clear hup hx HPX
      obtain ⟨z, hz⟩ : ∃ z : Int, z = n := ⟨_, rfl⟩
      rw [← hz]
      have hz0 : 0 ≤ z := by omega
      have hz17 : z ≤ 17 := by omega
      have HZ := Lib.hid hz
      clear hz
      by_cases hlt : z < 17
      · have ix := str_index s z n HZ.out (by have := HZ.out; have := HL.out; omega)
        have FN : Hid (fine s.data.toList n = if n % 3 = 2 then s.data.toList.getD n 0 == 58 else decide (0 ≤ hexv (s.data.toList.getD n 0))) := rfl
        have NOF : Hid (fine s.data.toList n = false → ¬ okText s.data.toList) := fun h => not_ok (by have := HZ.out; omega) h
        have UPF : Hid (fine s.data.toList n = true → upto s.data.toList (n + 1)) := fun h => (upto_snoc _ _).2 ⟨HU.out, h⟩
        obtain ⟨c, EC⟩ : ∃ c, Hid (s.data.toList.getD n 0 = c) := ⟨_, rfl⟩
        rw [EC.out] at ix FN
        by_cases h2 : n % 3 = 2
        · have t2 : (z % 3 == 2) = true := by have := HZ.out; simp; omega
          cases hc : ((c.toNat : Int) != 58)
          · have FT : Hid (fine s.data.toList n = true) := by show _ = _; rw [FN.out, if_pos h2]; simp at hc ⊢; rw [← UInt8.toNat_inj]; show c.toNat = 58; omega
            have H2 := Lib.hid h2
            clear h2
            go_wp2_with fail
            go_roundw
            case rel => exact ⟨n + 1, by have := HZ.out; omega, by rw [HZ.out]; go_num, UPF.out FT.out, HX.out.res, by rw [rpart_colon _ _ H2.out]; exact HX.out.m, HX.out.bel⟩
            case measure => simp [intOf]; have := HZ.out; omega
          · have FT : Hid (¬ okText s.data.toList) := NOF.out (by rw [FN.out, if_pos h2]; simp at hc ⊢; intro e; subst e; exact hc rfl)
            clear h2
            have hz : Blk wr w.heap.size 23 #[.int .u8 0, .int .u8 0, .int .u8 0, .int .u8 0, .int .u8 0, .int .u8 0] := HX.out.res
            have st := hz.store6 (.int .u8 0) (.int .u8 0) (.int .u8 0) (.int .u8 0) (.int .u8 0) (.int .u8 0)
            obtain ⟨f0, f1, f2, f3, f4, f5⟩ := hz.frees6
            obtain ⟨r0, r1, r2, r3, r4, r5⟩ := hz.cells6
            have ST := Lib.hid st
            clear st hz
            go_wp2_with (go_at_call 29; refine (digit_any _ _).mono ?_; rintro e w' ⟨rfl, rfl⟩)
            have FIN : Hid (Parsed s.data.toList w (.returned (.tuple #[.agg (macv zero6), .int .i64 50])) ((((((wr.setCell ⟨w.heap.size, 0, none⟩ (.int .u8 0)).setCell ⟨w.heap.size, 1, none⟩ (.int .u8 0)).setCell ⟨w.heap.size, 2, none⟩ (.int .u8 0)).setCell ⟨w.heap.size, 3, none⟩ (.int .u8 0)).setCell ⟨w.heap.size, 4, none⟩ (.int .u8 0)).setCell ⟨w.heap.size, 5, none⟩ (.int .u8 0))) := ⟨by rw [parseM, parseE, if_neg FT.out, if_neg FT.out], below_grown HX.out.bel ST.out.2 (Nat.le_refl _) (Nat.le_refl _)⟩
            obtain ⟨d0, d1, d2, d3, d4, d5⟩ := ST.out.1.cells6
            clear f0 f1 f2 f3 f4 f5 r0 r1 r2 r3 r4 r5
            generalize ((((((wr.setCell ⟨w.heap.size, 0, none⟩ (.int .u8 0)).setCell ⟨w.heap.size, 1, none⟩ (.int .u8 0)).setCell ⟨w.heap.size, 2, none⟩ (.int .u8 0)).setCell ⟨w.heap.size, 3, none⟩ (.int .u8 0)).setCell ⟨w.heap.size, 4, none⟩ (.int .u8 0)).setCell ⟨w.heap.size, 5, none⟩ (.int .u8 0)) = w6 at *
            exact bodyPost_ret (v := .tuple #[.agg (macv zero6), .int .i64 50]) (by simp [results, Try.results11, go_sem, macv, zero6, bval, d0, d1, d2, d3, d4, d5]) rfl FIN.out
        · have t2 : (z % 3 == 2) = false := by have := HZ.out; simp; omega
          have bc := hexv_bd c
          obtain ⟨bc0, bc1⟩ := bc
          by_cases hd : hexv c < 0
          · have FT : Hid (¬ okText s.data.toList) := NOF.out (by rw [FN.out, if_neg h2]; simpa using hd)
            clear h2
            have hz : Blk wr w.heap.size 23 #[.int .u8 0, .int .u8 0, .int .u8 0, .int .u8 0, .int .u8 0, .int .u8 0] := HX.out.res
            have st := hz.store6 (.int .u8 0) (.int .u8 0) (.int .u8 0) (.int .u8 0) (.int .u8 0) (.int .u8 0)
            obtain ⟨f0, f1, f2, f3, f4, f5⟩ := hz.frees6
            obtain ⟨r0, r1, r2, r3, r4, r5⟩ := hz.cells6
            have ST := Lib.hid st
            clear st hz
            go_wp2_with (go_at_call 29; refine (digit_any _ _).mono ?_; rintro e w' ⟨rfl, rfl⟩)
            have FIN : Hid (Parsed s.data.toList w (.returned (.tuple #[.agg (macv zero6), .int .i64 50])) ((((((wr.setCell ⟨w.heap.size, 0, none⟩ (.int .u8 0)).setCell ⟨w.heap.size, 1, none⟩ (.int .u8 0)).setCell ⟨w.heap.size, 2, none⟩ (.int .u8 0)).setCell ⟨w.heap.size, 3, none⟩ (.int .u8 0)).setCell ⟨w.heap.size, 4, none⟩ (.int .u8 0)).setCell ⟨w.heap.size, 5, none⟩ (.int .u8 0))) := ⟨by rw [parseM, parseE, if_neg FT.out, if_neg FT.out], below_grown HX.out.bel ST.out.2 (Nat.le_refl _) (Nat.le_refl _)⟩
            obtain ⟨d0, d1, d2, d3, d4, d5⟩ := ST.out.1.cells6
            clear f0 f1 f2 f3 f4 f5 r0 r1 r2 r3 r4 r5
            generalize ((((((wr.setCell ⟨w.heap.size, 0, none⟩ (.int .u8 0)).setCell ⟨w.heap.size, 1, none⟩ (.int .u8 0)).setCell ⟨w.heap.size, 2, none⟩ (.int .u8 0)).setCell ⟨w.heap.size, 3, none⟩ (.int .u8 0)).setCell ⟨w.heap.size, 4, none⟩ (.int .u8 0)).setCell ⟨w.heap.size, 5, none⟩ (.int .u8 0)) = w6 at *
            exact bodyPost_ret (v := .tuple #[.agg (macv zero6), .int .i64 50]) (by simp [results, Try.results11, go_sem, macv, zero6, bval, d0, d1, d2, d3, d4, d5]) rfl FIN.out
          · have hd0 : 0 ≤ hexv c := by omega
            have FT : Hid (fine s.data.toList n = true) := by show _ = _; rw [FN.out, if_neg h2]; simpa using hd0
            obtain ⟨q, hq6, hnq, eq⟩ : ∃ q : Nat, q < 6 ∧ (n = 3 * q ∨ n = 3 * q + 1) ∧ (z / 3).toNat = q := ⟨n / 3, by have := HZ.out; omega, by omega, by have := HZ.out; omega⟩
            have fm : wr.frozen? ⟨w.heap.size + 1, (z / 3).toNat, none⟩ = false := HX.out.m.free _
            have gm : wr.cell? ⟨w.heap.size + 1, (z / 3).toNat, none⟩ = some (.int .u8 ((rpv s.data.toList n q).toNat : Int)) := by rw [HX.out.m.cell, eq, rpart_get _ _ _ hq6]
            obtain ⟨v, ev, vb0, vb1, hv⟩ : ∃ v : Int, ((rpv s.data.toList n q).toNat : Int) = v ∧ 0 ≤ v ∧ v ≤ 15 ∧ 16 * v + hexv c = ((rpv s.data.toList (n + 1) q).toNat : Int) := by
              rcases hnq with e | e
              · subst e
                rw [← EC.out] at hd0 bc1 ⊢
                have := rpv_int0 s.data.toList q hd0 bc1
                exact ⟨0, this.1, by omega, by omega, by rw [← this.2]; omega⟩
              · subst e
                have fp := (upto_snoc _ _).1 HU.out
                have x0 : 0 ≤ hexv (s.data.toList.getD (3 * q) 0) := by
                  have := fp.2
                  rw [fine, if_neg (by omega)] at this
                  simpa using this
                have x1 := (hexv_bd (s.data.toList.getD (3 * q) 0)).2
                rw [← EC.out] at hd0 bc1 ⊢
                have := rpv_int1 s.data.toList q x0 x1 hd0 bc1
                exact ⟨_, this.1, x0, x1, this.2⟩
            rw [ev] at gm
            have PUT := Lib.hid (HX.out.put hq6 hnq _ hv)
            rw [← eq] at PUT
            have q0 : 0 ≤ z / 3 := by omega
            have q1 : z / 3 < 6 := by omega
            clear h2 ev hv eq hnq
            go_wp2_with (go_at_call 29; refine (digit_any _ _).mono ?_; rintro e w' ⟨rfl, rfl⟩)
            go_roundw
            case rel => first | exact ⟨n + 1, by have := HZ.out; omega, by rw [HZ.out]; go_num, UPF.out FT.out, PUT.out⟩ | ((repeat apply Exists.intro); refine ⟨⟨n + 1, ?_, ?_, UPF.out FT.out, PUT.out⟩, rfl⟩; (have := HZ.out; omega); (rw [HZ.out]; go_num))
            case measure => simp [intOf]; have := HZ.out; omega
      · obtain rfl : n = 17 := by have := HZ.out; omega
        have hm : Blk wr (w.heap.size + 1) 23 #[.int .u8 ((macAt s.data.toList 0).toNat : Int), .int .u8 ((macAt s.data.toList 1).toNat : Int), .int .u8 ((macAt s.data.toList 2).toNat : Int), .int .u8 ((macAt s.data.toList 3).toNat : Int), .int .u8 ((macAt s.data.toList 4).toNat : Int), .int .u8 ((macAt s.data.toList 5).toNat : Int)] := by
          have := HX.out.m
          rw [rpart_17] at this
          exact this
        have hz : Blk wr w.heap.size 23 #[.int .u8 0, .int .u8 0, .int .u8 0, .int .u8 0, .int .u8 0, .int .u8 0] := HX.out.res
        have OK : Hid (okText s.data.toList) := ⟨HSZ.out.trans HL.out, HU.out⟩
        have st := hz.store6 (.int .u8 ((macAt s.data.toList 0).toNat : Int)) (.int .u8 ((macAt s.data.toList 1).toNat : Int)) (.int .u8 ((macAt s.data.toList 2).toNat : Int)) (.int .u8 ((macAt s.data.toList 3).toNat : Int)) (.int .u8 ((macAt s.data.toList 4).toNat : Int)) (.int .u8 ((macAt s.data.toList 5).toNat : Int))
        obtain ⟨f0, f1, f2, f3, f4, f5⟩ := hz.frees6
        obtain ⟨r0, r1, r2, r3, r4, r5⟩ := hz.cells6
        obtain ⟨m0, m1, m2, m3, m4, m5⟩ := hm.cells6
        have ST := Lib.hid st
        clear st hz hm
        go_wp2_with fail
        have FIN : Hid (Parsed s.data.toList w (.returned (.tuple #[.agg (macv (macOf s.data.toList)), .int .i64 0])) ((((((wr.setCell ⟨w.heap.size, 0, none⟩ (.int .u8 ((macAt s.data.toList 0).toNat : Int))).setCell ⟨w.heap.size, 1, none⟩ (.int .u8 ((macAt s.data.toList 1).toNat : Int))).setCell ⟨w.heap.size, 2, none⟩ (.int .u8 ((macAt s.data.toList 2).toNat : Int))).setCell ⟨w.heap.size, 3, none⟩ (.int .u8 ((macAt s.data.toList 3).toNat : Int))).setCell ⟨w.heap.size, 4, none⟩ (.int .u8 ((macAt s.data.toList 4).toNat : Int))).setCell ⟨w.heap.size, 5, none⟩ (.int .u8 ((macAt s.data.toList 5).toNat : Int)))) := ⟨by rw [parseM, parseE, if_pos OK.out, if_pos OK.out], below_grown HX.out.bel ST.out.2 (Nat.le_refl _) (Nat.le_refl _)⟩
        obtain ⟨d0, d1, d2, d3, d4, d5⟩ := ST.out.1.cells6
        clear f0 f1 f2 f3 f4 f5 r0 r1 r2 r3 r4 r5 m0 m1 m2 m3 m4 m5
        generalize ((((((wr.setCell ⟨w.heap.size, 0, none⟩ (.int .u8 ((macAt s.data.toList 0).toNat : Int))).setCell ⟨w.heap.size, 1, none⟩ (.int .u8 ((macAt s.data.toList 1).toNat : Int))).setCell ⟨w.heap.size, 2, none⟩ (.int .u8 ((macAt s.data.toList 2).toNat : Int))).setCell ⟨w.heap.size, 3, none⟩ (.int .u8 ((macAt s.data.toList 3).toNat : Int))).setCell ⟨w.heap.size, 4, none⟩ (.int .u8 ((macAt s.data.toList 4).toNat : Int))).setCell ⟨w.heap.size, 5, none⟩ (.int .u8 ((macAt s.data.toList 5).toNat : Int))) = w6 at *
        exact bodyPost_ret (v := .tuple #[.agg (macv (macOf s.data.toList)), .int .i64 0]) (by simp [results, Try.results11, go_sem, macv, macOf, bval, d0, d1, d2, d3, d4, d5]) rfl FIN.out
end Go.Proofs.Ythchjfkbaocoiaa
