/-
  The walk of eth.Parse.
-/
import Derived.Test.YthchjfkbaocoiaaEthB
import Derived.Test.YthchjfkbaocoiaaGoes
import Derived.Test.YthchjfkbaocoiaaBlk6
import Derived.Deep.QuietTactic
import Derived.BigQuiet
import Derived.Deep.DeepCutAuto
namespace Go.Proofs.Ythchjfkbaocoiaa
open Go.RowKit
set_option linter.unusedVariables false

def upto (s : List UInt8) (n : Nat) : Prop := (List.range n).all (fine s) = true
theorem upto_add (s : List UInt8) (n m : Nat) (h : upto s (n + m)) : upto s n := by
  unfold upto at *
  rw [List.all_eq_true] at *
  intro x hx
  exact h x (List.mem_range.2 (by have := List.mem_range.1 hx; omega))
theorem upto_snoc (s : List UInt8) (n : Nat) : upto s (n + 1) ↔ upto s n ∧ fine s n = true := by
  unfold upto
  rw [List.range_succ, List.all_append]
  simp
theorem not_ok {s : List UInt8} {i : Nat} (hi : i < 17) (h : fine s i = false) : ¬ okText s := by
  intro hh
  have := hh.2
  rw [List.all_eq_true] at this
  rw [this i (List.mem_range.2 hi)] at h
  cases h
/-- The first k bytes of an address. -/
def part6 (s : List UInt8) (k : Nat) : List UInt8 := (List.range 6).map fun j => if j < k then macAt s j else 0
theorem part6_zero (s : List UInt8) : part6 s 0 = zero6 := by simp [part6, zero6, List.range, List.range.loop]
theorem part6_six (s : List UInt8) : part6 s 6 = macOf s := by simp [part6, macOf, List.range, List.range.loop]
theorem part6_set (s : List UInt8) (k : Nat) (hk : k < 6) : (part6 s k).set k (macAt s k) = part6 s (k + 1) := by
  apply List.ext_getElem
  · simp [part6]
  · intro i h1 h2
    simp [part6] at h1 h2
    rw [List.getElem_set]
    simp only [part6, List.getElem_map, List.getElem_range]
    by_cases e : k = i
    · subst e; simp
    · rw [if_neg e]
      by_cases e2 : i < k
      · rw [if_pos e2, if_pos (by omega)]
      · rw [if_neg e2, if_neg (by omega)]
theorem set_macv (m : List UInt8) (k : Nat) (v : Int) (x : UInt8) (hv : v = (x.toNat : Int)) : (macv m).setIfInBounds k (.int .u8 v) = macv (m.set k x) := by
  subst hv
  unfold macv
  rw [List.map_set]
  simp [bval]
theorem bits16 (a b : Int) (a0 : 0 ≤ a) (a1 : a ≤ 15) (b0 : 0 ≤ b) (b1 : b ≤ 15) : bits .or .i64 (a * 16) b = a * 16 + b := by
  obtain ⟨a, rfl⟩ := Int.eq_ofNat_of_zero_le a0
  obtain ⟨b, rfl⟩ := Int.eq_ofNat_of_zero_le b0
  have h1 : ∀ x : Fin 16, ∀ y : Fin 16, bits .or .i64 ((x.val : Int) * 16) (y.val : Int) = (x.val : Int) * 16 + (y.val : Int) := by decide +kernel
  exact h1 ⟨a, by omega⟩ ⟨b, by omega⟩

theorem mac_int {l : List UInt8} {k : Nat} {x y : Int} (h : macAt l k = UInt8.ofNat (16 * x.toNat + y.toNat)) (x0 : 0 ≤ x) (x1 : x ≤ 15) (y0 : 0 ≤ y) (y1 : y ≤ 15) : x * 16 + y = ((macAt l k).toNat : Int) := by
  have e : (macAt l k).toNat = 16 * x.toNat + y.toNat := by
    rw [h, UInt8.toNat_ofNat']
    omega
  rw [e]
  omega
structure PX (w : World) (s : List UInt8) (k : Nat) (w' : World) : Prop where
  res : Blk w' w.heap.size 23 (macv zero6)
  m : Blk w' (w.heap.size + 1) 23 (macv (part6 s k))
  bel : Below w.heap.size w w'
def Wrong (w : World) (w' : World) : Prop := Blk w' w.heap.size 23 (macv zero6) ∧ Below w.heap.size w w'
def ParseJ (w : World) (s : ByteArray) (l : Nat) (a' : Act) (w' : World) : Prop :=
  (l = 1 ∧ ∃ k : Nat, k ≤ 5 ∧ s.size = 17 ∧ upto s.data.toList (3 * k) ∧ PX w s.data.toList k w' ∧ ∃ z : Int, z = k ∧ ∃ u1 u6 u7 u8 u9 u10 u11 u12 u13 u14 u15 u16 u17 u18 u19 u20 u21 u22 u23 u24 u25 u26 u27 u28 u29 u30 u31 u32 u33 u34 u35 u36 u37 u38 u39 u40 u41 u42 u43 u44 u45 u46 : Value, a' = { tmps := #[.string s, u1, .pointer (some ⟨w.heap.size, 0, none⟩), .int .i64 0, .pointer (some ⟨w.heap.size + 1, 0, none⟩), .int .i64 z, u6, u7, u8, u9, u10, u11, u12, u13, u14, u15, u16, u17, u18, u19, u20, u21, u22, u23, u24, u25, u26, u27, u28, u29, u30, u31, u32, u33, u34, u35, u36, u37, u38, u39, u40, u41, u42, u43, u44, u45, u46], defers := [] })
  ∨ (l = 0 ∧ ¬ okText s.data.toList ∧ Wrong w w' ∧ ∃ u0 u1 u3 u4 u5 u6 u7 u8 u9 u10 u11 u12 u13 u14 u15 u16 u17 u18 u19 u20 u21 u22 u23 u24 u25 u26 u27 u28 u29 u30 u31 u32 u33 u34 u35 u36 u37 u38 u39 u40 u41 u42 u43 u44 u45 u46 : Value, a' = { tmps := #[u0, u1, .pointer (some ⟨w.heap.size, 0, none⟩), u3, u4, u5, u6, u7, u8, u9, u10, u11, u12, u13, u14, u15, u16, u17, u18, u19, u20, u21, u22, u23, u24, u25, u26, u27, u28, u29, u30, u31, u32, u33, u34, u35, u36, u37, u38, u39, u40, u41, u42, u43, u44, u45, u46], defers := [] })
def parseMu (l : Nat) (a : Act) (_ : World) : Nat := if l = 1 then 10 - (intOf (a.tmps.getD 5 undef)).toNat else 0

def Parsed (l : List UInt8) (w : World) (e : Ending) (w' : World) : Prop := e = .returned (.tuple #[.agg (macv (parseM l)), .int .i64 (parseE l)]) ∧ Below w.heap.size w w'

set_option maxHeartbeats 1000000 in
set_option maxRecDepth 100000 in
theorem parse_any (s : ByteArray) (w : World) (hs : s.size ≤ 9223372036854775807) :
    Calls Try.prog 9 #[.string s] w (Parsed s.data.toList w) := by
  have hpx : PX w s.data.toList 0 ((w.alloc (.cells (macv zero6) 23)).alloc (.cells (macv zero6) 23)) :=
    ⟨blk_old (blk_new w _ _) _, by rw [part6_zero]; have := blk_new (w.alloc (.cells (macv zero6) 23)) 23 (macv zero6); simpa using this, ((Below.refl _ _).alloc (Nat.le_refl _) _).alloc (by simp) _⟩
  have HPX := Lib.hid hpx
  clear hpx
  have hsz : s.data.toList.length = s.size := rfl
  have HSZ := Lib.hid hsz
  clear hsz
  go_enter Try.func9, Try.ntmps9
  go_wp2_with fail
  refine wp_scope_goes (ParseJ w s) parseMu ?first ?pass
  case' first =>
    by_cases hl : s.size = 17
    case' neg =>
      have b1 : ((s.size : Int) != 17) = true := by simp; omega
      have HL : Hid (¬ okText s.data.toList) := fun hh => hl (HSZ.out.symm.trans hh.1)
      clear hl
      go_wp2_with fail
      go_step3
      exact .inr ⟨rfl, HL.out, ⟨HPX.out.res, HPX.out.bel⟩, _, _, _, _, _, _, _, _, _, _, _, _, _, _, _, _, _, _, _, _, _, _, _, _, _, _, _, _, _, _, _, _, _, _, _, _, _, _, _, _, _, _, _, _, _, _, rfl⟩
    case' pos =>
      have b1 : ((s.size : Int) != 17) = false := by rw [hl]; rfl
      have HL := Lib.hid hl
      clear hl
      go_wp2_with fail
      go_step3
      change Exit.then _ _ _ { tmps := #[_, _, _, _, _, .int .i64 (Int.ofNat 0), _, _, _, _, _, _, _, _, _, _, _, _, _, _, _, _, _, _, _, _, _, _, _, _, _, _, _, _, _, _, _, _, _, _, _, _, _, _, _, _, _], defers := _ } _
      have HPX' : Hid (PX w s.data.toList 0 ((w.alloc (.cells #[.int .u8 0, .int .u8 0, .int .u8 0, .int .u8 0, .int .u8 0, .int .u8 0] 23)).alloc (.cells #[.int .u8 0, .int .u8 0, .int .u8 0, .int .u8 0, .int .u8 0, .int .u8 0] 23))) := HPX.out
      clear HPX
      generalize (w.alloc (.cells #[.int .u8 0, .int .u8 0, .int .u8 0, .int .u8 0, .int .u8 0, .int .u8 0] 23)).alloc (.cells #[.int .u8 0, .int .u8 0, .int .u8 0, .int .u8 0, .int .u8 0, .int .u8 0] 23) = W at *
      obtain ⟨k, hk, hup, hpx, hz⟩ : ∃ k : Nat, k ≤ 5 ∧ upto s.data.toList (3 * k) ∧ PX w s.data.toList k W ∧ Int.ofNat 0 = (k : Int) := ⟨0, by omega, rfl, HPX'.out, rfl⟩
      clear HPX'
      generalize Int.ofNat 0 = z at hz ⊢
  case' pass =>
    intro l a' W hJ
    rcases hJ with ⟨rfl, k, hk, HL0, hup, hpx, z, hz, u1, u6, u7, u8, u9, u10, u11, u12, u13, u14, u15, u16, u17, u18, u19, u20, u21, u22, u23, u24, u25, u26, u27, u28, u29, u30, u31, u32, u33, u34, u35, u36, u37, u38, u39, u40, u41, u42, u43, u44, u45, u46, rfl⟩ | ⟨rfl, hno, hwr, u0, u1, u3, u4, u5, u6, u7, u8, u9, u10, u11, u12, u13, u14, u15, u16, u17, u18, u19, u20, u21, u22, u23, u24, u25, u26, u27, u28, u29, u30, u31, u32, u33, u34, u35, u36, u37, u38, u39, u40, u41, u42, u43, u44, u45, u46, rfl⟩
    case' inr =>
      refine ⟨_, rfl, ?_⟩
      have hz : Blk W w.heap.size 23 #[.int .u8 0, .int .u8 0, .int .u8 0, .int .u8 0, .int .u8 0, .int .u8 0] := hwr.1
      have st := hz.store6 (.int .u8 0) (.int .u8 0) (.int .u8 0) (.int .u8 0) (.int .u8 0) (.int .u8 0)
      obtain ⟨f0, f1, f2, f3, f4, f5⟩ := hz.frees6
      obtain ⟨r0, r1, r2, r3, r4, r5⟩ := hz.cells6
      have ST := Lib.hid st
      have HB := Lib.hid hwr.2
      have HN := Lib.hid hno
      clear hwr hno HPX st hz
      go_wp2_with fail
      have FIN : Hid (Parsed s.data.toList w (.returned (.tuple #[.agg (macv zero6), .int .i64 50])) ((((((W.setCell ⟨w.heap.size, 0, none⟩ (.int .u8 0)).setCell ⟨w.heap.size, 1, none⟩ (.int .u8 0)).setCell ⟨w.heap.size, 2, none⟩ (.int .u8 0)).setCell ⟨w.heap.size, 3, none⟩ (.int .u8 0)).setCell ⟨w.heap.size, 4, none⟩ (.int .u8 0)).setCell ⟨w.heap.size, 5, none⟩ (.int .u8 0))) := ⟨by rw [parseM, parseE, if_neg HN.out, if_neg HN.out], below_grown HB.out ST.out.2 (Nat.le_refl _) (Nat.le_refl _)⟩
      obtain ⟨d0, d1, d2, d3, d4, d5⟩ := ST.out.1.cells6
      clear f0 f1 f2 f3 f4 f5 HN HB
      clear r0 r1 r2 r3 r4 r5
      generalize ((((((W.setCell ⟨w.heap.size, 0, none⟩ (.int .u8 0)).setCell ⟨w.heap.size, 1, none⟩ (.int .u8 0)).setCell ⟨w.heap.size, 2, none⟩ (.int .u8 0)).setCell ⟨w.heap.size, 3, none⟩ (.int .u8 0)).setCell ⟨w.heap.size, 4, none⟩ (.int .u8 0)).setCell ⟨w.heap.size, 5, none⟩ (.int .u8 0)) = w6 at *
      simp only [goes]
      exact bodyPost_ret (v := .tuple #[.agg (macv zero6), .int .i64 50]) (by simp [results, Try.results9, go_sem, macv, zero6, bval, d0, d1, d2, d3, d4, d5]) rfl FIN.out
    case' inl =>
      refine ⟨_, rfl, ?_⟩
      have HL := Lib.hid HL0
      clear HL0 HPX
  all_goals
    have hz0 : 0 ≤ z := by omega
    have hz5 : z ≤ 5 := by omega
    have hsz : (s.size : Int) = 17 := by have := HL.out; omega
    have ixa := str_index s (3 * z) (3 * k) (by omega) (by omega)
    have ixb := str_index s (3 * z + 1) (3 * k + 1) (by omega) (by omega)
    have wa : IntKind.i64.wrap (3 * z) = 3 * z := IntWalk.i64_in _ (by omega)
    have wb : IntKind.i64.wrap (3 * z + 1) = 3 * z + 1 := IntWalk.i64_in _ (by omega)
    have FA : Hid (fine s.data.toList (3 * k) = decide (0 ≤ hexv (s.data.toList.getD (3 * k) 0))) := by show fine _ _ = _; rw [fine, if_neg (by omega)]
    have FB : Hid (fine s.data.toList (3 * k + 1) = decide (0 ≤ hexv (s.data.toList.getD (3 * k + 1) 0))) := by show fine _ _ = _; rw [fine, if_neg (by omega)]
    have FC : Hid (fine s.data.toList (3 * k + 2) = (s.data.toList.getD (3 * k + 2) 0 == 58)) := by show fine _ _ = _; rw [fine, if_pos (by omega)]
    have MA : Hid (macAt s.data.toList k = UInt8.ofNat (16 * (hexv (s.data.toList.getD (3 * k) 0)).toNat + (hexv (s.data.toList.getD (3 * k + 1) 0)).toNat)) := rfl
    have HZ := Lib.hid hz
    have HU := Lib.hid hup
    have HX := Lib.hid hpx
    clear hz hup hpx
    generalize s.data.toList.getD (3 * k) 0 = a at *
    generalize s.data.toList.getD (3 * k + 1) 0 = b at *
    have ba := hexv_bd a
    have bb := hexv_bd b
    obtain ⟨ba0, ba1⟩ := ba
    obtain ⟨bb0, bb1⟩ := bb
    go_wp2_with fail
    go_quiet ((go_at_call 27; exact Calls.quiet_of_same ((value_any _ _).mono fun _ _ h => ⟨h.1, h.2.symm⟩)))
    clear ixa ixb wa wb
    have hpx : PX w s.data.toList k (W.drewN nq) := ⟨HX.out.res, HX.out.m, below_drewN HX.out.bel nq⟩
    clear HX
    have HX := Lib.hid hpx
    clear hpx
    generalize W.drewN nq = W1 at *
    by_cases ha : hexv a < 0
    · have NO : Hid (¬ okText s.data.toList) := not_ok (i := 3 * k) (by omega) (by rw [FA.out]; simpa using ha)
      go_wp2_with fail
      go_step3
      first
        | exact .inr ⟨rfl, NO.out, ⟨HX.out.res, HX.out.bel⟩, _, _, _, _, _, _, _, _, _, _, _, _, _, _, _, _, _, _, _, _, _, _, _, _, _, _, _, _, _, _, _, _, _, _, _, _, _, _, _, _, _, _, _, _, _, _, rfl⟩
        | exact ⟨.inr ⟨rfl, NO.out, ⟨HX.out.res, HX.out.bel⟩, _, _, _, _, _, _, _, _, _, _, _, _, _, _, _, _, _, _, _, _, _, _, _, _, _, _, _, _, _, _, _, _, _, _, _, _, _, _, _, _, _, _, _, _, _, _, rfl⟩, by simp [parseMu, intOf]; omega⟩
    have ha0 : 0 ≤ hexv a := by omega
    by_cases hb : hexv b < 0
    · have NO : Hid (¬ okText s.data.toList) := not_ok (i := 3 * k + 1) (by omega) (by rw [FB.out]; simpa using hb)
      go_wp2_with fail
      go_step3
      first
        | exact .inr ⟨rfl, NO.out, ⟨HX.out.res, HX.out.bel⟩, _, _, _, _, _, _, _, _, _, _, _, _, _, _, _, _, _, _, _, _, _, _, _, _, _, _, _, _, _, _, _, _, _, _, _, _, _, _, _, _, _, _, _, _, _, _, rfl⟩
        | exact ⟨.inr ⟨rfl, NO.out, ⟨HX.out.res, HX.out.bel⟩, _, _, _, _, _, _, _, _, _, _, _, _, _, _, _, _, _, _, _, _, _, _, _, _, _, _, _, _, _, _, _, _, _, _, _, _, _, _, _, _, _, _, _, _, _, _, rfl⟩, by simp [parseMu, intOf]; omega⟩
    have hb0 : 0 ≤ hexv b := by omega
    have bt := bits16 (hexv a) (hexv b) ha0 ba1 hb0 bb1
    have ez : z.toNat = k := by have := HZ.out; omega
    have fm : W1.frozen? ⟨w.heap.size + 1, z.toNat, none⟩ = false := HX.out.m.free _
    obtain ⟨v0, gm⟩ : ∃ v, W1.cell? ⟨w.heap.size + 1, z.toNat, none⟩ = some v := by
      rw [HX.out.m.cell, ez]
      exact ⟨_, Array.getElem?_eq_getElem (by simp [macv, part6]; omega)⟩
    have EZ := Lib.hid ez
    clear ez
    have hw2 : PX w s.data.toList (k + 1) (W1.setCell ⟨w.heap.size + 1, z.toNat, none⟩ (.int .u8 (hexv a * 16 + hexv b))) := by
      have h1 := HX.out.m.set z.toNat (.int .u8 (hexv a * 16 + hexv b))
      rw [EZ.out] at h1 ⊢
      rw [set_macv _ _ (hexv a * 16 + hexv b) (macAt s.data.toList k) (mac_int MA.out ha0 ba1 hb0 bb1), part6_set s.data.toList k (by omega)] at h1
      exact ⟨(HX.out.res).far (p := ⟨w.heap.size + 1, k, none⟩) (by simp) _, h1, HX.out.bel.setCell (p := ⟨w.heap.size + 1, k, none⟩) (by simp) _⟩
    have HX2 := Lib.hid hw2
    clear hw2 HX
    go_upto_region 7 with fail
    clear fm gm bt
    generalize W1.setCell ⟨w.heap.size + 1, z.toNat, none⟩ (.int .u8 (hexv a * 16 + hexv b)) = W2 at *
    by_cases h5 : z = 5
    · have h6 : (z + 1 == 6) = true := by rw [h5]; rfl
      have hne : ((z + 1) != 6) = false := by rw [h5]; rfl
      have EK : Hid (k + 1 = 6) := by have := HZ.out; show _ = _; omega
      have H5 := Lib.hid h5
      clear h5
      have hm : Blk W2 (w.heap.size + 1) 23 #[.int .u8 ((macAt s.data.toList 0).toNat : Int), .int .u8 ((macAt s.data.toList 1).toNat : Int), .int .u8 ((macAt s.data.toList 2).toNat : Int), .int .u8 ((macAt s.data.toList 3).toNat : Int), .int .u8 ((macAt s.data.toList 4).toNat : Int), .int .u8 ((macAt s.data.toList 5).toNat : Int)] := by
        have := HX2.out.m
        rw [EK.out, part6_six] at this
        exact this
      have hz : Blk W2 w.heap.size 23 #[.int .u8 0, .int .u8 0, .int .u8 0, .int .u8 0, .int .u8 0, .int .u8 0] := HX2.out.res
      have OK : Hid (okText s.data.toList) := by
        refine ⟨HSZ.out.trans HL.out, ?_⟩
        have u := (upto_snoc _ _).2 ⟨(upto_snoc _ _).2 ⟨HU.out, by rw [FA.out]; simpa using ha0⟩, by rw [FB.out]; simpa using hb0⟩
        rw [show 3 * k + 1 + 1 = 17 by have := EK.out; omega] at u
        exact u
      have st := hz.store6 (.int .u8 ((macAt s.data.toList 0).toNat : Int)) (.int .u8 ((macAt s.data.toList 1).toNat : Int)) (.int .u8 ((macAt s.data.toList 2).toNat : Int)) (.int .u8 ((macAt s.data.toList 3).toNat : Int)) (.int .u8 ((macAt s.data.toList 4).toNat : Int)) (.int .u8 ((macAt s.data.toList 5).toNat : Int))
      obtain ⟨f0, f1, f2, f3, f4, f5⟩ := hz.frees6
      obtain ⟨r0, r1, r2, r3, r4, r5⟩ := hz.cells6
      obtain ⟨m0, m1, m2, m3, m4, m5⟩ := hm.cells6
      have ST := Lib.hid st
      clear st hz hm
      go_wp2_with fail
      have FIN : Hid (Parsed s.data.toList w (.returned (.tuple #[.agg (macv (macOf s.data.toList)), .int .i64 0])) ((((((W2.setCell ⟨w.heap.size, 0, none⟩ (.int .u8 ((macAt s.data.toList 0).toNat : Int))).setCell ⟨w.heap.size, 1, none⟩ (.int .u8 ((macAt s.data.toList 1).toNat : Int))).setCell ⟨w.heap.size, 2, none⟩ (.int .u8 ((macAt s.data.toList 2).toNat : Int))).setCell ⟨w.heap.size, 3, none⟩ (.int .u8 ((macAt s.data.toList 3).toNat : Int))).setCell ⟨w.heap.size, 4, none⟩ (.int .u8 ((macAt s.data.toList 4).toNat : Int))).setCell ⟨w.heap.size, 5, none⟩ (.int .u8 ((macAt s.data.toList 5).toNat : Int)))) := ⟨by rw [parseM, parseE, if_pos OK.out, if_pos OK.out], below_grown HX2.out.bel ST.out.2 (Nat.le_refl _) (Nat.le_refl _)⟩
      obtain ⟨d0, d1, d2, d3, d4, d5⟩ := ST.out.1.cells6
      clear f0 f1 f2 f3 f4 f5 r0 r1 r2 r3 r4 r5 m0 m1 m2 m3 m4 m5
      generalize ((((((W2.setCell ⟨w.heap.size, 0, none⟩ (.int .u8 ((macAt s.data.toList 0).toNat : Int))).setCell ⟨w.heap.size, 1, none⟩ (.int .u8 ((macAt s.data.toList 1).toNat : Int))).setCell ⟨w.heap.size, 2, none⟩ (.int .u8 ((macAt s.data.toList 2).toNat : Int))).setCell ⟨w.heap.size, 3, none⟩ (.int .u8 ((macAt s.data.toList 3).toNat : Int))).setCell ⟨w.heap.size, 4, none⟩ (.int .u8 ((macAt s.data.toList 4).toNat : Int))).setCell ⟨w.heap.size, 5, none⟩ (.int .u8 ((macAt s.data.toList 5).toNat : Int))) = w6 at *
      simp only [goes]
      exact bodyPost_ret (v := .tuple #[.agg (macv (macOf s.data.toList)), .int .i64 0]) (by simp [results, Try.results9, go_sem, macv, macOf, bval, d0, d1, d2, d3, d4, d5]) rfl FIN.out
    · have h6 : (z + 1 == 6) = false := by simp; omega
      have hz4 : z ≤ 4 := by omega
      have ixc := str_index s (3 * (z + 1) - 1) (3 * k + 2) (by have := HZ.out; omega) (by have := HZ.out; have := HL.out; omega)
      have H5 := Lib.hid h5
      clear h5
      generalize s.data.toList.getD (3 * k + 2) 0 = c at *
      have U2 : Hid (upto s.data.toList (3 * k + 2)) := (upto_snoc _ _).2 ⟨(upto_snoc _ _).2 ⟨HU.out, by rw [FA.out]; simpa using ha0⟩, by rw [FB.out]; simpa using hb0⟩
      cases hc : ((c.toNat : Int) == 58)
      · have NO : Hid (¬ okText s.data.toList) := not_ok (i := 3 * k + 2) (by have := HZ.out; omega) (by rw [FC.out]; simp at hc ⊢; intro e; subst e; exact hc rfl)
        have hz : Blk W2 w.heap.size 23 #[.int .u8 0, .int .u8 0, .int .u8 0, .int .u8 0, .int .u8 0, .int .u8 0] := HX2.out.res
        have st := hz.store6 (.int .u8 0) (.int .u8 0) (.int .u8 0) (.int .u8 0) (.int .u8 0) (.int .u8 0)
        obtain ⟨f0, f1, f2, f3, f4, f5⟩ := hz.frees6
        obtain ⟨r0, r1, r2, r3, r4, r5⟩ := hz.cells6
        have ST := Lib.hid st
        clear st hz
        go_wp2_with fail
        go_step3
        go_wp2_with fail
        have FIN : Hid (Parsed s.data.toList w (.returned (.tuple #[.agg (macv zero6), .int .i64 50])) ((((((W2.setCell ⟨w.heap.size, 0, none⟩ (.int .u8 0)).setCell ⟨w.heap.size, 1, none⟩ (.int .u8 0)).setCell ⟨w.heap.size, 2, none⟩ (.int .u8 0)).setCell ⟨w.heap.size, 3, none⟩ (.int .u8 0)).setCell ⟨w.heap.size, 4, none⟩ (.int .u8 0)).setCell ⟨w.heap.size, 5, none⟩ (.int .u8 0))) := ⟨by rw [parseM, parseE, if_neg NO.out, if_neg NO.out], below_grown HX2.out.bel ST.out.2 (Nat.le_refl _) (Nat.le_refl _)⟩
        obtain ⟨d0, d1, d2, d3, d4, d5⟩ := ST.out.1.cells6
        clear f0 f1 f2 f3 f4 f5 r0 r1 r2 r3 r4 r5
        generalize ((((((W2.setCell ⟨w.heap.size, 0, none⟩ (.int .u8 0)).setCell ⟨w.heap.size, 1, none⟩ (.int .u8 0)).setCell ⟨w.heap.size, 2, none⟩ (.int .u8 0)).setCell ⟨w.heap.size, 3, none⟩ (.int .u8 0)).setCell ⟨w.heap.size, 4, none⟩ (.int .u8 0)).setCell ⟨w.heap.size, 5, none⟩ (.int .u8 0)) = w6 at *
        simp only [goes]
        exact bodyPost_ret (v := .tuple #[.agg (macv zero6), .int .i64 50]) (by simp [results, Try.results9, go_sem, macv, zero6, bval, d0, d1, d2, d3, d4, d5]) rfl FIN.out
      · have U3 : Hid (upto s.data.toList (3 * (k + 1))) := by
          show upto _ _
          rw [show 3 * (k + 1) = 3 * k + 2 + 1 by omega]
          exact (upto_snoc _ _).2 ⟨U2.out, by rw [FC.out]; simp at hc ⊢; rw [← UInt8.toNat_inj]; show c.toNat = 58; omega⟩
        go_wp2_with fail
        go_step3
        first
          | exact .inl ⟨rfl, k + 1, by have := HZ.out; omega, HL.out, U3.out, HX2.out, z + 1, by have := HZ.out; omega, _, _, _, _, _, _, _, _, _, _, _, _, _, _, _, _, _, _, _, _, _, _, _, _, _, _, _, _, _, _, _, _, _, _, _, _, _, _, _, _, _, _, rfl⟩
          | exact ⟨.inl ⟨rfl, k + 1, by have := HZ.out; omega, HL.out, U3.out, HX2.out, z + 1, by have := HZ.out; omega, _, _, _, _, _, _, _, _, _, _, _, _, _, _, _, _, _, _, _, _, _, _, _, _, _, _, _, _, _, _, _, _, _, _, _, _, _, _, _, _, _, _, rfl⟩, by simp [parseMu, intOf]; omega⟩
end Go.Proofs.Ythchjfkbaocoiaa
