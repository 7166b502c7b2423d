/-
  The walk of the law EthTexts.
-/
import Derived.Test.YthchjfkbaocoiaaEthTellsWalk
import Derived.Laws.IdiomStrings
import Derived.Deep.RegionHeld3
namespace Go.Proofs.Ythchjfkbaocoiaa
open Go.RowKit
set_option linter.unusedVariables false

/-- A row of bytes that a string was turned to. -/
def SmRow (w : World) (g : Nat) (bs : List UInt8) : Prop := ∃ cs m, w.heap[g]? = some (.cells cs 5 m) ∧ bs.length ≤ cs.size ∧ cs.size ≤ m.1 ∧ ∀ i, i < bs.length → cs[i]? = some (bval (bs.getD i 0))
section
variable {w w' : World} {g : Nat} {bs : List UInt8}
theorem SmRow.lt (h : SmRow w g bs) : g < w.heap.size := by
  obtain ⟨cs, m, hh, _⟩ := h
  exact (Array.getElem?_eq_some_iff.1 hh).1
theorem SmRow.keep (h : SmRow w g bs) (hk : w'.heap[g]? = w.heap[g]?) : SmRow w' g bs := by
  obtain ⟨cs, m, hh, r⟩ := h
  exact ⟨cs, m, hk.trans hh, r⟩
theorem SmRow.cell (h : SmRow w g bs) (i : Nat) (hi : i < bs.length) : w.cell? ⟨g, i, none⟩ = some (.int .u8 ((bs.getD i 0).toNat : Int)) := by
  obtain ⟨cs, m, hh, _, _, hc⟩ := h
  rw [cell_of_row w g i cs _ m hh, hc i hi]
  rfl
theorem SmRow.free (h : SmRow w g bs) (i : Nat) (hi : i < bs.length) : w.frozen? ⟨g, i, none⟩ = false := by
  obtain ⟨cs, m, hh, h1, h2, _⟩ := h
  unfold World.frozen?
  simp only [hh]
  obtain ⟨lo, hi'⟩ := m
  simp only at h2 ⊢
  have : ¬ lo ≤ i := by omega
  simp [this]
theorem SmRow.set (h : SmRow w g bs) (k : Nat) (x : UInt8) (v : Int) (hv : v = (x.toNat : Int)) : SmRow (w.setCell ⟨g, k, none⟩ (.int .u8 v)) g (bs.set k x) := by
  subst hv
  obtain ⟨cs, m, hh, h1, h2, hc⟩ := h
  refine ⟨cs.setIfInBounds k (.int .u8 (x.toNat : Int)), m, ?_, by simpa using h1, by simpa using h2, fun i hi => ?_⟩
  · simp [World.setCell, Array.getElem?_modify, hh]
  · rw [List.length_set] at hi
    rw [Array.getElem?_setIfInBounds]
    by_cases e : k = i
    · subst e
      rw [if_pos rfl, if_pos (by omega)]
      simp [bval, List.getD_eq_getElem?_getD, hi]
    · rw [if_neg e, hc i hi]
      simp [List.getD_eq_getElem?_getD, List.getElem?_set_ne e]
theorem SmRow.rd (h : SmRow w g bs) : Bs w (some ⟨g, 0, none⟩) bs := .inr ⟨g, 0, rfl, fun i hi => by rw [Nat.zero_add]; exact h.cell i hi⟩
end

/-- Three addresses in boxes of their own, and the small text's bytes. -/
structure TX (w0 : World) (g1 g2 g3 g : Nat) (c1 c2 c3 : Array Value) (bs : List UInt8) (w : World) : Prop where
  b0 : Blk w g1 23 c1
  b1 : Blk w g2 23 c2
  b2 : Blk w g3 23 c3
  row : SmRow w g bs
  base : w0.heap.size ≤ g
  n1 : g1 ≠ g
  n2 : g2 ≠ g
  n3 : g3 ≠ g
  bel : Below w0.heap.size w0 w
section
variable {w0 w w' : World} {g1 g2 g3 g : Nat} {c1 c2 c3 : Array Value} {bs : List UInt8}
theorem TX.below (h : TX w0 g1 g2 g3 g c1 c2 c3 bs w) (hb : Below w.heap.size w w') : TX w0 g1 g2 g3 g c1 c2 c3 bs w' :=
  ⟨h.b0.below hb h.b0.lt, h.b1.below hb h.b1.lt, h.b2.below hb h.b2.lt, h.row.keep (hb.block g h.row.lt), h.base, h.n1, h.n2, h.n3, h.bel.trans (hb.mono h.bel.size)⟩
theorem TX.same {bs' : List UInt8} (h : TX w0 g1 g2 g3 g c1 c2 c3 bs w) (e : bs = bs') : TX w0 g1 g2 g3 g c1 c2 c3 bs' w := by subst e; exact h
theorem TX.put (h : TX w0 g1 g2 g3 g c1 c2 c3 bs w) (k : Nat) (x : UInt8) (v : Int) (hv : v = (x.toNat : Int)) : TX w0 g1 g2 g3 g c1 c2 c3 (bs.set k x) (w.setCell ⟨g, k, none⟩ (.int .u8 v)) :=
  ⟨h.b0.far (p := ⟨g, k, none⟩) h.n1 _, h.b1.far (p := ⟨g, k, none⟩) h.n2 _, h.b2.far (p := ⟨g, k, none⟩) h.n3 _, h.row.set k x v hv, h.base, h.n1, h.n2, h.n3, h.bel.setCell (p := ⟨g, k, none⟩) h.base _⟩
theorem TX.conv {n cap : Nat} (h : TX w0 g1 g2 g3 g c1 c2 c3 bs w) (hn : bs.length = n) : (convert 29 9 (.slice (some ⟨g, 0, none⟩) n cap)).run Try.prog w = .ok (.string ⟨bs.toArray⟩) w := by
  subst hn
  exact h.row.rd.str cap
end
def lowN (l : List UInt8) (k : Nat) : List UInt8 := (l.take k).map low ++ l.drop k
theorem lowN_length (l : List UInt8) (k : Nat) : (lowN l k).length = l.length := by simp [lowN]; omega
theorem lowN_get (l : List UInt8) (k : Nat) (hk : k < l.length) : (lowN l k).getD k 0 = l.getD k 0 := by
  unfold lowN
  rw [List.getD_eq_getElem?_getD, List.getElem?_append_right (by simp; omega)]
  simp [show min k l.length = k by omega, List.getD_eq_getElem?_getD]
theorem lowN_at (l : List UInt8) (k i : Nat) (hk : k ≤ l.length) : (lowN l k)[i]? = if i < k then (l[i]?).map low else l[i]? := by
  unfold lowN
  by_cases h : i < k
  · rw [if_pos h, List.getElem?_append_left (by simp; omega), List.getElem?_map, List.getElem?_take_of_lt h]
  · rw [if_neg h, List.getElem?_append_right (by simp; omega), List.getElem?_drop]
    congr 1
    simp
    omega
theorem lowN_set (l : List UInt8) (k : Nat) (hk : k < l.length) : (lowN l k).set k (low (l.getD k 0)) = lowN l (k + 1) := by
  apply List.ext_getElem?
  intro i
  rw [List.getElem?_set, lowN_at l k i (by omega), lowN_at l (k + 1) i (by omega), lowN_length]
  by_cases e : k = i
  · subst e
    rw [if_pos rfl, if_pos hk, if_pos (by omega)]
    simp [List.getD_eq_getElem?_getD, List.getElem?_eq_getElem hk]
  · rw [if_neg e]
    by_cases h : i < k
    · rw [if_pos h, if_pos (by omega)]
    · rw [if_neg h, if_neg (by omega)]
theorem lowN_same (l : List UInt8) (k : Nat) (hk : k < l.length) (h : low (l.getD k 0) = l.getD k 0) : lowN l k = lowN l (k + 1) := by
  rw [← lowN_set l k hk, h, ← lowN_get l k hk]
  apply List.ext_getElem
  · simp
  · intro i h1 h2
    rw [List.getElem_set]
    split
    · rename_i e
      subst e
      simp [List.getD_eq_getElem?_getD, List.getElem?_eq_getElem h1]
    · rfl
theorem lowN_all (l : List UInt8) : lowN l l.length = l.map low := by simp [lowN]

set_option maxHeartbeats 8000000 in
set_option maxRecDepth 100000 in
theorem ethTexts_walk (m : List UInt8) (s : ByteArray) (w : World) (hm : m.length = 6) (hs : s.size ≤ 9223372036854775807) :
    Calls Try.prog 3 #[.agg (macv m), .string s] w fun e w' => e = .returned (.bool true) ∧ Below w.heap.size w w' := by
  have PT := parse_text m hm
  have e1 : parseM (text m) = m := by rw [parseM, if_pos PT.1, PT.2]
  have e2 : parseE (text m) = 0 := by rw [parseE, if_pos PT.1]
  have hqa := mac_eq m m hm hm
  rw [show (m == m) = true from by simp] at hqa
  have hts : (⟨(text m).toArray⟩ : ByteArray).size ≤ 9223372036854775807 := by
    show (text m).toArray.size ≤ _
    have := textN_length m
    rw [textN_text] at this
    simp
    omega
  have X9 : ∀ W, Calls Try.prog 9 #[.string ⟨(text m).toArray⟩] W fun e w' => e = .returned (.tuple #[.agg (macv m), .int .i64 0]) ∧ Below W.heap.size W w' := fun W => (parse_any ⟨(text m).toArray⟩ W hts).mono (by
    rintro e w' ⟨rfl, hb⟩
    refine ⟨?_, hb⟩
    show Ending.returned (.tuple #[.agg (macv (parseM (text m))), .int .i64 (parseE (text m))]) = _
    rw [e1, e2])
  have X10 := fun W => text_any m W hm
  clear PT e1 e2 hts
  generalize (⟨(text m).toArray⟩ : ByteArray) = T0 at X9 X10
  obtain ⟨a0, a1, a2, a3, a4, a5, rfl⟩ := six hm
  have hg := mac_guard
  have hqz := mac_eq zero6 zero6 rfl rfl
  rw [show (zero6 == zero6) = true from by decide] at hqz
  have mz : macv zero6 = #[.int .u8 0, .int .u8 0, .int .u8 0, .int .u8 0, .int .u8 0, .int .u8 0] := rfl
  rw [mz] at hqz
  clear mz
  unfold macv at X9 X10 hqa ⊢
  simp only [List.map_cons, List.map_nil, bval] at X9 X10 hqa ⊢
  have C9 := Lib.hid X9
  have C10 := Lib.hid X10
  clear X9 X10
  have hbb := (Below.refl w.heap.size w).alloc (Nat.le_refl _) (.cells #[.int .u8 (a0.toNat : Int), .int .u8 (a1.toNat : Int), .int .u8 (a2.toNat : Int), .int .u8 (a3.toNat : Int), .int .u8 (a4.toNat : Int), .int .u8 (a5.toNat : Int)] 23)
  have k0 := blk_new w 23 #[.int .u8 (a0.toNat : Int), .int .u8 (a1.toNat : Int), .int .u8 (a2.toNat : Int), .int .u8 (a3.toNat : Int), .int .u8 (a4.toNat : Int), .int .u8 (a5.toNat : Int)]
  have K0 := Lib.hid k0
  have KB := Lib.hid hbb
  clear k0 hbb
  go_enter Try.func3, Try.ntmps3
  go_wp2_with fail
  refine (works_any _).mono ?_
  rintro e w1 ⟨rfl, hb1⟩
  replace K0 := Lib.hid (K0.out.below hb1 K0.out.lt)
  replace KB := Lib.hid (KB.out.trans (hb1.mono KB.out.size))
  clear hb1
  obtain ⟨c0, c1, c2, c3, c4, c5⟩ := K0.out.cells6
  go_wp2_with fail
  refine (C10.out _).mono ?_
  rintro e w2 ⟨rfl, hb2⟩
  replace K0 := Lib.hid (K0.out.below hb2 K0.out.lt)
  replace KB := Lib.hid (KB.out.trans (hb2.mono KB.out.size))
  clear hb2 c0 c1 c2 c3 c4 c5
  go_wp2_with fail
  refine (C9.out _).mono ?_
  rintro e w3 ⟨rfl, hb3⟩
  replace K0 := Lib.hid (blk_old (K0.out.below hb3 K0.out.lt) (.cells #[.int .u8 (a0.toNat : Int), .int .u8 (a1.toNat : Int), .int .u8 (a2.toNat : Int), .int .u8 (a3.toNat : Int), .int .u8 (a4.toNat : Int), .int .u8 (a5.toNat : Int)] 23))
  have K1 := Lib.hid (blk_new w3 23 #[.int .u8 (a0.toNat : Int), .int .u8 (a1.toNat : Int), .int .u8 (a2.toNat : Int), .int .u8 (a3.toNat : Int), .int .u8 (a4.toNat : Int), .int .u8 (a5.toNat : Int)])
  replace KB := Lib.hid ((KB.out.trans (hb3.mono KB.out.size)).alloc (by have := KB.out.size; have := hb3.size; omega) (.cells #[.int .u8 (a0.toNat : Int), .int .u8 (a1.toNat : Int), .int .u8 (a2.toNat : Int), .int .u8 (a3.toNat : Int), .int .u8 (a4.toNat : Int), .int .u8 (a5.toNat : Int)] 23))
  clear hb3
  go_wp2_with fail
  generalize w3.alloc (.cells #[.int .u8 (a0.toNat : Int), .int .u8 (a1.toNat : Int), .int .u8 (a2.toNat : Int), .int .u8 (a3.toNat : Int), .int .u8 (a4.toNat : Int), .int .u8 (a5.toNat : Int)] 23) = w4 at *
  generalize w3.heap.size = G5 at *
  have hsz : (s.extract 0 (min (s.size : Int) 40).toNat).size ≤ 9223372036854775807 := by rw [ByteArray.size_extract]; omega
  have hs40 : (s.extract 0 (min (s.size : Int) 40).toNat).size ≤ 40 := by rw [ByteArray.size_extract]; omega
  generalize s.extract 0 (min (s.size : Int) 40).toNat = S at *
  have P1 := Lib.hid (fun W => parse_any S W hsz)
  refine (P1.out _).mono ?_
  rintro e w5 ⟨rfl, hb5⟩
  have hSL : S.data.toList.length = S.size := rfl
  have OKC : Hid ((okText S.data.toList ∧ ∃ pm, parseM S.data.toList = pm ∧ pm.length = 6 ∧ parseE S.data.toList = 0 ∧ text pm = S.data.toList.map low) ∨ (parseM S.data.toList = zero6 ∧ parseE S.data.toList = 50)) := by
    by_cases h : okText S.data.toList
    · exact .inl ⟨h, macOf S.data.toList, by rw [parseM, if_pos h], rfl, by rw [parseE, if_pos h], text_parse _ h⟩
    · exact .inr ⟨by rw [parseM, if_neg h], by rw [parseE, if_neg h]⟩
  have HSL := Lib.hid hSL
  clear hSL hsz P1
  have hcv := fun W : World => run_bytes_of_string (P := Try.prog) W 9 29 5 S Try.underlying9 Try.underlying29 Try.underlying5
  rcases OKC.out with ⟨hok, pm, epm, pl, epe, etx⟩ | ⟨epm, epe⟩
  · rw [epm, epe]
    obtain ⟨p0, p1, p2, p3, p4, p5, rfl⟩ := six pl
    have XT := fun W => text_any [p0, p1, p2, p3, p4, p5] W rfl
    rw [etx] at XT
    unfold macv at XT ⊢
    simp only [List.map_cons, List.map_nil, bval] at XT ⊢
    have CT := Lib.hid XT
    clear XT hok epm epe etx pl OKC
    replace K0 := Lib.hid (blk_old (K0.out.below hb5 K0.out.lt) (.cells #[.int .u8 (p0.toNat : Int), .int .u8 (p1.toNat : Int), .int .u8 (p2.toNat : Int), .int .u8 (p3.toNat : Int), .int .u8 (p4.toNat : Int), .int .u8 (p5.toNat : Int)] 23))
    replace K1 := Lib.hid (blk_old (K1.out.below hb5 K1.out.lt) (.cells #[.int .u8 (p0.toNat : Int), .int .u8 (p1.toNat : Int), .int .u8 (p2.toNat : Int), .int .u8 (p3.toNat : Int), .int .u8 (p4.toNat : Int), .int .u8 (p5.toNat : Int)] 23))
    have K2 := Lib.hid (blk_new w5 23 #[.int .u8 (p0.toNat : Int), .int .u8 (p1.toNat : Int), .int .u8 (p2.toNat : Int), .int .u8 (p3.toNat : Int), .int .u8 (p4.toNat : Int), .int .u8 (p5.toNat : Int)])
    replace KB := Lib.hid ((KB.out.trans (hb5.mono KB.out.size)).alloc (by have := KB.out.size; have := hb5.size; omega) (.cells #[.int .u8 (p0.toNat : Int), .int .u8 (p1.toNat : Int), .int .u8 (p2.toNat : Int), .int .u8 (p3.toNat : Int), .int .u8 (p4.toNat : Int), .int .u8 (p5.toNat : Int)] 23))
    clear hb5
    go_wp2_with fail
    have S6 : Hid ((w5.alloc (.cells #[.int .u8 (p0.toNat : Int), .int .u8 (p1.toNat : Int), .int .u8 (p2.toNat : Int), .int .u8 (p3.toNat : Int), .int .u8 (p4.toNat : Int), .int .u8 (p5.toNat : Int)] 23)).heap.size = w5.heap.size + 1) := by show _ = _; simp
    generalize w5.alloc (.cells #[.int .u8 (p0.toNat : Int), .int .u8 (p1.toNat : Int), .int .u8 (p2.toNat : Int), .int .u8 (p3.toNat : Int), .int .u8 (p4.toNat : Int), .int .u8 (p5.toNat : Int)] 23) = w6 at *
    generalize w5.heap.size = G7 at *
    generalize w.heap.size = G2 at K0 K1 K2 ⊢
    have hrow : SmRow ((w6.alloc (.cells (bytesRow S (grownCap w6 S.size 0 5)) 5 ((bytesRow S (grownCap w6 S.size 0 5)).size, (bytesRow S (grownCap w6 S.size 0 5)).size + 1))).drew) w6.heap.size (lowN S.data.toList 0) := by
      refine ⟨bytesRow S (grownCap w6 S.size 0 5), _, heap_alloc_new w6 _, ?_, Nat.le_refl _, fun i hi => ?_⟩
      · rw [lowN_length, HSL.out]; simp [bytesRow]
      · rw [lowN_length, HSL.out] at hi
        rw [bytesRow_at S _ i hi]
        simp [lowN, bval, List.getD_eq_getElem?_getD]
        rw [Array.getElem?_eq_getElem hi]
        rfl
    have ht : TX w G2 G5 G7 w6.heap.size #[.int .u8 (a0.toNat : Int), .int .u8 (a1.toNat : Int), .int .u8 (a2.toNat : Int), .int .u8 (a3.toNat : Int), .int .u8 (a4.toNat : Int), .int .u8 (a5.toNat : Int)] #[.int .u8 (a0.toNat : Int), .int .u8 (a1.toNat : Int), .int .u8 (a2.toNat : Int), .int .u8 (a3.toNat : Int), .int .u8 (a4.toNat : Int), .int .u8 (a5.toNat : Int)] #[.int .u8 (p0.toNat : Int), .int .u8 (p1.toNat : Int), .int .u8 (p2.toNat : Int), .int .u8 (p3.toNat : Int), .int .u8 (p4.toNat : Int), .int .u8 (p5.toNat : Int)] (lowN S.data.toList 0) ((w6.alloc (.cells (bytesRow S (grownCap w6 S.size 0 5)) 5 ((bytesRow S (grownCap w6 S.size 0 5)).size, (bytesRow S (grownCap w6 S.size 0 5)).size + 1))).drew) :=
      ⟨blk_old K0.out _, blk_old K1.out _, blk_old K2.out _, hrow, KB.out.size, by have := K0.out.lt; omega, by have := K1.out.lt; omega, by have := K2.out.lt; omega, below_drew (KB.out.alloc KB.out.size _)⟩
    rw [S6.out] at ht
    have HT := Lib.hid ht
    clear ht hrow K0 K1 K2 KB hcv S6
    generalize (w6.alloc (.cells (bytesRow S (grownCap w6 S.size 0 5)) 5 ((bytesRow S (grownCap w6 S.size 0 5)).size, (bytesRow S (grownCap w6 S.size 0 5)).size + 1))).drew = w7 at *
    generalize grownCap w6 S.size 0 5 = cap at *
    generalize G7 + 1 = g at *
    go_loopw [10] (fun i wr => ∃ k : Nat, k ≤ S.size ∧ i = .int .i64 k ∧ TX w G2 G5 G7 g #[.int .u8 (a0.toNat : Int), .int .u8 (a1.toNat : Int), .int .u8 (a2.toNat : Int), .int .u8 (a3.toNat : Int), .int .u8 (a4.toNat : Int), .int .u8 (a5.toNat : Int)] #[.int .u8 (a0.toNat : Int), .int .u8 (a1.toNat : Int), .int .u8 (a2.toNat : Int), .int .u8 (a3.toNat : Int), .int .u8 (a4.toNat : Int), .int .u8 (a5.toNat : Int)] #[.int .u8 (p0.toNat : Int), .int .u8 (p1.toNat : Int), .int .u8 (p2.toNat : Int), .int .u8 (p3.toNat : Int), .int .u8 (p4.toNat : Int), .int .u8 (p5.toNat : Int)] (lowN S.data.toList k) wr) (fun i _ => S.size - (intOf i).toNat)
    case atStart => exact ⟨0, by omega, rfl, HT.out⟩
    case round =>
      obtain ⟨k, hk, rfl, ht⟩ := hrel
      clear HT
      have HT := Lib.hid ht
      clear ht
      by_cases hlt : k < S.size
      · have hll : k < (lowN S.data.toList k).length := by rw [lowN_length, HSL.out]; exact hlt
        have cc := HT.out.row.cell k hll
        have ff := HT.out.row.free k hll
        rw [lowN_get _ _ (by rw [HSL.out]; exact hlt)] at cc
        have SAME : Hid (low (S.data.toList.getD k 0) = S.data.toList.getD k 0 → lowN S.data.toList k = lowN S.data.toList (k + 1)) := lowN_same _ _ (by rw [HSL.out]; exact hlt)
        have SET : Hid ((lowN S.data.toList k).set k (low (S.data.toList.getD k 0)) = lowN S.data.toList (k + 1)) := lowN_set _ _ (by rw [HSL.out]; exact hlt)
        obtain ⟨x, EX⟩ : ∃ x, Hid (S.data.toList.getD k 0 = x) := ⟨_, rfl⟩
        rw [EX.out] at cc SAME SET
        have xl := x.toNat_lt
        clear hll
        by_cases h1 : 65 ≤ x.toNat
        · by_cases h2 : x.toNat ≤ 70
          · have PUT := Lib.hid (HT.out.put k (low x) ((x.toNat : Int) + 32) (by rw [low, if_pos ⟨h1, h2⟩, UInt8.toNat_ofNat']; omega))
            rw [SET.out] at PUT
            go_wp2_with fail
            go_roundw
            case rel => exact ⟨k + 1, by omega, by go_num, PUT.out⟩
            case measure => simp [intOf]; omega
          · have LS := Lib.hid (SAME.out (by rw [low, if_neg (fun h => h2 h.2)]))
            go_wp2_with fail
            go_roundw
            case rel => exact ⟨k + 1, by omega, by go_num, by rw [← LS.out]; exact HT.out⟩
            case measure => simp [intOf]; omega
        · have LS := Lib.hid (SAME.out (by rw [low, if_neg (fun h => h1 h.1)]))
          go_wp2_with fail
          go_roundw
          case rel => exact ⟨k + 1, by omega, by go_num, by rw [← LS.out]; exact HT.out⟩
          case measure => simp [intOf]; omega
      · obtain rfl : k = S.size := by omega
        replace HT := Lib.hid (HT.out.same (show lowN S.data.toList S.size = S.data.toList.map low by rw [← HSL.out, lowN_all]))
        have HL7 : Hid ((S.data.toList.map low).length = S.size) := by show _ = _; rw [List.length_map, HSL.out]
        clear hk hlt
        go_wp2_with fail
        refine wp_region_held_drew (S := fun w' => w'.cell? ⟨G2, 0, none⟩ = some (.int .u8 (a0.toNat : Int)) ∧ w'.cell? ⟨G2, 1, none⟩ = some (.int .u8 (a1.toNat : Int)) ∧ w'.cell? ⟨G2, 2, none⟩ = some (.int .u8 (a2.toNat : Int)) ∧ w'.cell? ⟨G2, 3, none⟩ = some (.int .u8 (a3.toNat : Int)) ∧ w'.cell? ⟨G2, 4, none⟩ = some (.int .u8 (a4.toNat : Int)) ∧ w'.cell? ⟨G2, 5, none⟩ = some (.int .u8 (a5.toNat : Int)) ∧ w'.cell? ⟨G5, 0, none⟩ = some (.int .u8 (a0.toNat : Int)) ∧ w'.cell? ⟨G5, 1, none⟩ = some (.int .u8 (a1.toNat : Int)) ∧ w'.cell? ⟨G5, 2, none⟩ = some (.int .u8 (a2.toNat : Int)) ∧ w'.cell? ⟨G5, 3, none⟩ = some (.int .u8 (a3.toNat : Int)) ∧ w'.cell? ⟨G5, 4, none⟩ = some (.int .u8 (a4.toNat : Int)) ∧ w'.cell? ⟨G5, 5, none⟩ = some (.int .u8 (a5.toNat : Int)) ∧ w'.cell? ⟨G7, 0, none⟩ = some (.int .u8 (p0.toNat : Int)) ∧ w'.cell? ⟨G7, 1, none⟩ = some (.int .u8 (p1.toNat : Int)) ∧ w'.cell? ⟨G7, 2, none⟩ = some (.int .u8 (p2.toNat : Int)) ∧ w'.cell? ⟨G7, 3, none⟩ = some (.int .u8 (p3.toNat : Int)) ∧ w'.cell? ⟨G7, 4, none⟩ = some (.int .u8 (p4.toNat : Int)) ∧ w'.cell? ⟨G7, 5, none⟩ = some (.int .u8 (p5.toNat : Int)) ∧ (convert 29 9 (.slice (some ⟨g, 0, none⟩) S.size cap)).run Try.prog w' = .ok (.string ⟨(S.data.toList.map low).toArray⟩) w') (by kernel_rfl) ?_ (fun hHeld => ?_)
        · refine ⟨?_, ?_, ?_, ?_, ?_, ?_, ?_, ?_, ?_, ?_, ?_, ?_, ?_, ?_, ?_, ?_, ?_, ?_, ?_⟩
          · exact HT.out.b0.cell 0
          · exact HT.out.b0.cell 1
          · exact HT.out.b0.cell 2
          · exact HT.out.b0.cell 3
          · exact HT.out.b0.cell 4
          · exact HT.out.b0.cell 5
          · exact HT.out.b1.cell 0
          · exact HT.out.b1.cell 1
          · exact HT.out.b1.cell 2
          · exact HT.out.b1.cell 3
          · exact HT.out.b1.cell 4
          · exact HT.out.b1.cell 5
          · exact HT.out.b2.cell 0
          · exact HT.out.b2.cell 1
          · exact HT.out.b2.cell 2
          · exact HT.out.b2.cell 3
          · exact HT.out.b2.cell 4
          · exact HT.out.b2.cell 5
          · exact (HT.out.below (Drawn.below (w' := wr.drew) ⟨1, rfl⟩ _)).conv HL7.out
        refine wpAnyH_take (i := 0) (v := ?_) rfl (by kernel_rfl) (by kernel_rfl) (by kernel_rfl) (fun _ _ _ h => h) (Or.inl ⟨by rfl, ?_⟩) (by assumption) ?_
        rotate_left
        · intro w hSw
          (try dsimp only at hSw)
          go_simp
          try with_reducible rfl
        try simp only [Act.put, List.getElem_toArray, List.getElem_cons_zero, List.setIfInBounds_toArray, List.set_cons_zero, List.set_cons_succ]
        refine wpAnyH_take (i := 1) (v := ?_) rfl (by kernel_rfl) (by kernel_rfl) (by kernel_rfl) (fun _ _ _ h => h) (Or.inl ⟨by rfl, ?_⟩) (by assumption) ?_
        rotate_left
        · intro w hSw
          (try dsimp only at hSw)
          go_simp
          try with_reducible rfl
        try simp only [Act.put, List.getElem_toArray, List.getElem_cons_zero, List.getElem_cons_succ, List.setIfInBounds_toArray, List.set_cons_zero, List.set_cons_succ]
        refine wpAnyH_take (i := 2) (v := ?_) rfl (by kernel_rfl) (by kernel_rfl) (by kernel_rfl) (fun _ _ _ h => h) (Or.inl ⟨by rfl, ?_⟩) (by assumption) ?_
        rotate_left
        · intro w hSw
          (try dsimp only at hSw)
          go_simp
          try with_reducible rfl
        try simp only [Act.put, List.getElem_toArray, List.getElem_cons_zero, List.getElem_cons_succ, List.setIfInBounds_toArray, List.set_cons_zero, List.set_cons_succ]
        refine wpAnyH_take (i := 3) (v := ?_) rfl (by kernel_rfl) (by kernel_rfl) (by kernel_rfl) (fun _ _ _ h => h) (Or.inl ⟨by rfl, ?_⟩) (by assumption) ?_
        rotate_left
        · intro w hSw
          (try dsimp only at hSw)
          go_simp
          try with_reducible rfl
        try simp only [Act.put, List.getElem_toArray, List.getElem_cons_zero, List.getElem_cons_succ, List.setIfInBounds_toArray, List.set_cons_zero, List.set_cons_succ]
        refine wpAnyH_take (i := 4) (v := ?_) rfl (by kernel_rfl) (by kernel_rfl) (by kernel_rfl) (fun _ _ _ h => h) (Or.inl ⟨by rfl, ?_⟩) (by assumption) ?_
        rotate_left
        · intro w hSw
          (try dsimp only at hSw)
          go_simp
          try with_reducible rfl
        try simp only [Act.put, List.getElem_toArray, List.getElem_cons_zero, List.getElem_cons_succ, List.setIfInBounds_toArray, List.set_cons_zero, List.set_cons_succ]
        refine wpAnyH_take (i := 5) (v := ?_) rfl (by kernel_rfl) (by kernel_rfl) (by kernel_rfl) (fun _ _ _ h => h) (Or.inl ⟨by rfl, ?_⟩) (by assumption) ?_
        rotate_left
        · intro w hSw
          (try dsimp only at hSw)
          go_simp
          try with_reducible rfl
        try simp only [Act.put, List.getElem_toArray, List.getElem_cons_zero, List.getElem_cons_succ, List.setIfInBounds_toArray, List.set_cons_zero, List.set_cons_succ]
        refine wpAnyH_take (i := 6) (v := ?_) rfl (by kernel_rfl) (by kernel_rfl) (by kernel_rfl) (fun _ _ _ h => h) (Or.inl ⟨by rfl, ?_⟩) (by assumption) ?_
        rotate_left
        · intro w hSw
          (try dsimp only at hSw)
          go_simp
          try with_reducible rfl
        try simp only [Act.put, List.getElem_toArray, List.getElem_cons_zero, List.getElem_cons_succ, List.setIfInBounds_toArray, List.set_cons_zero, List.set_cons_succ]
        refine wpAnyH_take (i := 7) (v := ?_) rfl (by kernel_rfl) (by kernel_rfl) (by kernel_rfl) (fun _ _ _ h => h) (Or.inl ⟨by rfl, ?_⟩) (by assumption) ?_
        rotate_left
        · intro w hSw
          (try dsimp only at hSw)
          go_simp
          try with_reducible rfl
        try simp only [Act.put, List.getElem_toArray, List.getElem_cons_zero, List.getElem_cons_succ, List.setIfInBounds_toArray, List.set_cons_zero, List.set_cons_succ]
        refine wpAnyH_take (i := 8) (v := ?_) rfl (by kernel_rfl) (by kernel_rfl) (by kernel_rfl) (fun _ _ _ h => h) (Or.inl ⟨by rfl, ?_⟩) (by assumption) ?_
        rotate_left
        · intro w hSw
          (try dsimp only at hSw)
          go_simp
          try with_reducible rfl
        try simp only [Act.put, List.getElem_toArray, List.getElem_cons_zero, List.getElem_cons_succ, List.setIfInBounds_toArray, List.set_cons_zero, List.set_cons_succ]
        refine wpAnyH_take (i := 9) (v := ?_) rfl (by kernel_rfl) (by kernel_rfl) (by kernel_rfl) (fun _ _ _ h => h) (Or.inl ⟨by rfl, ?_⟩) (by assumption) ?_
        rotate_left
        · intro w hSw
          (try dsimp only at hSw)
          go_simp
          try with_reducible rfl
        try simp only [Act.put, List.getElem_toArray, List.getElem_cons_zero, List.getElem_cons_succ, List.setIfInBounds_toArray, List.set_cons_zero, List.set_cons_succ]
        refine wpAnyH_take (i := 10) (v := ?_) rfl (by kernel_rfl) (by kernel_rfl) (by kernel_rfl) (fun _ _ _ h => h) (Or.inl ⟨by rfl, ?_⟩) (by assumption) ?_
        rotate_left
        · intro w hSw
          (try dsimp only at hSw)
          go_simp
          try with_reducible rfl
        try simp only [Act.put, List.getElem_toArray, List.getElem_cons_zero, List.getElem_cons_succ, List.setIfInBounds_toArray, List.set_cons_zero, List.set_cons_succ]
        refine wpAnyH_take (i := 11) (v := undef) rfl (by kernel_rfl) (by kernel_rfl) (by kernel_rfl) (fun _ _ _ h => h) (Or.inr ⟨by rfl, rfl⟩) (by assumption) ?_
        try simp only [Act.put, List.getElem_toArray, List.getElem_cons_zero, List.getElem_cons_succ, List.setIfInBounds_toArray, List.set_cons_zero, List.set_cons_succ]
        refine wpAnyH_take (i := 12) (v := undef) rfl (by kernel_rfl) (by kernel_rfl) (by kernel_rfl) (fun _ _ _ h => h) (Or.inr ⟨by rfl, rfl⟩) (by assumption) ?_
        try simp only [Act.put, List.getElem_toArray, List.getElem_cons_zero, List.getElem_cons_succ, List.setIfInBounds_toArray, List.set_cons_zero, List.set_cons_succ]
        refine wpAnyH_take (i := 13) (v := undef) rfl (by kernel_rfl) (by kernel_rfl) (by kernel_rfl) (fun _ _ _ h => h) (Or.inr ⟨by rfl, rfl⟩) (by assumption) ?_
        try simp only [Act.put, List.getElem_toArray, List.getElem_cons_zero, List.getElem_cons_succ, List.setIfInBounds_toArray, List.set_cons_zero, List.set_cons_succ]
        refine wpAnyH_take (i := 14) (v := ?_) rfl (by kernel_rfl) (by kernel_rfl) (by kernel_rfl) (fun _ _ _ h => h) (Or.inl ⟨by rfl, ?_⟩) (by assumption) ?_
        rotate_left
        · intro w hSw
          (try dsimp only at hSw)
          go_simp
          try with_reducible rfl
        try simp only [Act.put, List.getElem_toArray, List.getElem_cons_zero, List.getElem_cons_succ, List.setIfInBounds_toArray, List.set_cons_zero, List.set_cons_succ]
        refine wpAnyH_take (i := 15) (v := ?_) rfl (by kernel_rfl) (by kernel_rfl) (by kernel_rfl) (fun _ _ _ h => h) (Or.inl ⟨by rfl, ?_⟩) (by assumption) ?_
        rotate_left
        · intro w hSw
          (try dsimp only at hSw)
          go_simp
          try with_reducible rfl
        try simp only [Act.put, List.getElem_toArray, List.getElem_cons_zero, List.getElem_cons_succ, List.setIfInBounds_toArray, List.set_cons_zero, List.set_cons_succ]
        refine wpAnyH_take (i := 16) (v := ?_) rfl (by kernel_rfl) (by kernel_rfl) (by kernel_rfl) (fun _ _ _ h => h) (Or.inl ⟨by rfl, ?_⟩) (by assumption) ?_
        rotate_left
        · intro w hSw
          (try dsimp only at hSw)
          go_simp
          try with_reducible rfl
        try simp only [Act.put, List.getElem_toArray, List.getElem_cons_zero, List.getElem_cons_succ, List.setIfInBounds_toArray, List.set_cons_zero, List.set_cons_succ]
        refine wpAnyH_take (i := 17) (v := ?_) rfl (by kernel_rfl) (by kernel_rfl) (by kernel_rfl) (fun _ _ _ h => h) (Or.inl ⟨by rfl, ?_⟩) (by assumption) ?_
        rotate_left
        · intro w hSw
          (try dsimp only at hSw)
          go_simp
          try with_reducible rfl
        try simp only [Act.put, List.getElem_toArray, List.getElem_cons_zero, List.getElem_cons_succ, List.setIfInBounds_toArray, List.set_cons_zero, List.set_cons_succ]
        refine wpAnyH_take (i := 18) (v := ?_) rfl (by kernel_rfl) (by kernel_rfl) (by kernel_rfl) (fun _ _ _ h => h) (Or.inl ⟨by rfl, ?_⟩) (by assumption) ?_
        rotate_left
        · intro w hSw
          (try dsimp only at hSw)
          go_simp
          try with_reducible rfl
        try simp only [Act.put, List.getElem_toArray, List.getElem_cons_zero, List.getElem_cons_succ, List.setIfInBounds_toArray, List.set_cons_zero, List.set_cons_succ]
        refine wpAnyH_take (i := 19) (v := ?_) rfl (by kernel_rfl) (by kernel_rfl) (by kernel_rfl) (fun _ _ _ h => h) (Or.inl ⟨by rfl, ?_⟩) (by assumption) ?_
        rotate_left
        · intro w hSw
          (try dsimp only at hSw)
          go_simp
          try with_reducible rfl
        try simp only [Act.put, List.getElem_toArray, List.getElem_cons_zero, List.getElem_cons_succ, List.setIfInBounds_toArray, List.set_cons_zero, List.set_cons_succ]
        refine wpAnyH_take (i := 21) (v := ?_) rfl (by kernel_rfl) (by kernel_rfl) (by kernel_rfl) (fun _ _ _ h => h) (Or.inl ⟨by rfl, ?_⟩) (by assumption) ?_
        rotate_left
        · intro w hSw
          (try dsimp only at hSw)
          go_simp
          try with_reducible rfl
        try simp only [Act.put, List.getElem_toArray, List.getElem_cons_zero, List.getElem_cons_succ, List.setIfInBounds_toArray, List.set_cons_zero, List.set_cons_succ]
        refine wpAnyH_take (i := 22) (v := ?_) rfl (by kernel_rfl) (by kernel_rfl) (by kernel_rfl) (fun _ _ _ h => h) (Or.inl ⟨by rfl, ?_⟩) (by assumption) ?_
        rotate_left
        · intro w hSw
          (try dsimp only at hSw)
          go_simp
          try with_reducible rfl
        try simp only [Act.put, List.getElem_toArray, List.getElem_cons_zero, List.getElem_cons_succ, List.setIfInBounds_toArray, List.set_cons_zero, List.set_cons_succ]
        refine wpAnyH_ready (rs := [20]) (by kernel_rfl) (by simp) ?_
        refine AllReadyH.cons rfl (fun K hK => ?_) ?_
        · go_simp
          refine (CT.out _).mono ?_
          rintro e w4 ⟨rfl, hb4⟩
          have HT4 := Lib.hid ((HT.out.below (Drawn.below ⟨1, rfl⟩ _)).below hb4)
          clear hb4
          go_wp2_with fail
          refine hK.out _ _ ?_ (fun hHeld => ?_)
          · refine ⟨?_, ?_, ?_, ?_, ?_, ?_, ?_, ?_, ?_, ?_, ?_, ?_, ?_, ?_, ?_, ?_, ?_, ?_, ?_⟩
            · exact HT4.out.b0.cell 0
            · exact HT4.out.b0.cell 1
            · exact HT4.out.b0.cell 2
            · exact HT4.out.b0.cell 3
            · exact HT4.out.b0.cell 4
            · exact HT4.out.b0.cell 5
            · exact HT4.out.b1.cell 0
            · exact HT4.out.b1.cell 1
            · exact HT4.out.b1.cell 2
            · exact HT4.out.b1.cell 3
            · exact HT4.out.b1.cell 4
            · exact HT4.out.b1.cell 5
            · exact HT4.out.b2.cell 0
            · exact HT4.out.b2.cell 1
            · exact HT4.out.b2.cell 2
            · exact HT4.out.b2.cell 3
            · exact HT4.out.b2.cell 4
            · exact HT4.out.b2.cell 5
            · exact HT4.out.conv HL7.out
          clear hK K
          try simp only [Act.put, List.getElem_toArray, List.getElem_cons_zero, List.getElem_cons_succ, List.setIfInBounds_toArray, List.set_cons_zero, List.set_cons_succ]
          refine wpAnyH_take (i := 23) (v := ?_) rfl (by kernel_rfl) (by kernel_rfl) (by kernel_rfl) (fun _ _ _ h => h) (Or.inl ⟨by rfl, ?_⟩) (by assumption) ?_
          rotate_left
          · intro w hSw
            (try dsimp only at hSw)
            go_simp
            try with_reducible rfl
          try simp only [Act.put, List.getElem_toArray, List.getElem_cons_zero, List.getElem_cons_succ, List.setIfInBounds_toArray, List.set_cons_zero, List.set_cons_succ]
          refine wpAnyH_take (i := 24) (v := ?_) rfl (by kernel_rfl) (by kernel_rfl) (by kernel_rfl) (fun _ _ _ h => h) (Or.inl ⟨by rfl, ?_⟩) (by assumption) ?_
          rotate_left
          · intro w hSw
            (try dsimp only at hSw)
            go_simp
            try with_reducible rfl
          try simp only [Act.put, List.getElem_toArray, List.getElem_cons_zero, List.getElem_cons_succ, List.setIfInBounds_toArray, List.set_cons_zero, List.set_cons_succ]
          refine wpAnyH_take (i := 25) (v := ?_) rfl (by kernel_rfl) (by kernel_rfl) (by kernel_rfl) (fun _ _ _ h => h) (Or.inl ⟨by rfl, ?_⟩) (by assumption) ?_
          rotate_left
          · intro w hSw
            (try dsimp only at hSw)
            go_simp
            try with_reducible rfl
          try simp only [Act.put, List.getElem_toArray, List.getElem_cons_zero, List.getElem_cons_succ, List.setIfInBounds_toArray, List.set_cons_zero, List.set_cons_succ]
          refine wpAnyH_take (i := 26) (v := ?_) rfl (by kernel_rfl) (by kernel_rfl) (by kernel_rfl) (fun _ _ _ h => h) (Or.inl ⟨by rfl, ?_⟩) (by assumption) ?_
          rotate_left
          · intro w hSw
            (try dsimp only at hSw)
            go_simp
            try with_reducible rfl
          try simp only [Act.put, List.getElem_toArray, List.getElem_cons_zero, List.getElem_cons_succ, List.setIfInBounds_toArray, List.set_cons_zero, List.set_cons_succ]
          refine wpAnyH_take (i := 27) (v := ?_) rfl (by kernel_rfl) (by kernel_rfl) (by kernel_rfl) (fun _ _ _ h => h) (Or.inl ⟨by rfl, ?_⟩) (by assumption) ?_
          rotate_left
          · intro w hSw
            (try dsimp only at hSw)
            go_simp
            try with_reducible rfl
          try simp only [Act.put, List.getElem_toArray, List.getElem_cons_zero, List.getElem_cons_succ, List.setIfInBounds_toArray, List.set_cons_zero, List.set_cons_succ]
          refine wpAnyH_done (by kernel_rfl) ?_ _
          go_wp2_with fail
          go_ret
          exact ⟨by simp, HT4.out.bel⟩
        · exact AllReadyH.nil
  · rw [epm, epe, show macv zero6 = #[.int .u8 0, .int .u8 0, .int .u8 0, .int .u8 0, .int .u8 0, .int .u8 0] from rfl]
    clear epm epe OKC
    replace K0 := Lib.hid (blk_old (K0.out.below hb5 K0.out.lt) (.cells #[.int .u8 0, .int .u8 0, .int .u8 0, .int .u8 0, .int .u8 0, .int .u8 0] 23))
    replace K1 := Lib.hid (blk_old (K1.out.below hb5 K1.out.lt) (.cells #[.int .u8 0, .int .u8 0, .int .u8 0, .int .u8 0, .int .u8 0, .int .u8 0] 23))
    have K2 := Lib.hid (blk_new w5 23 #[.int .u8 0, .int .u8 0, .int .u8 0, .int .u8 0, .int .u8 0, .int .u8 0])
    replace KB := Lib.hid ((KB.out.trans (hb5.mono KB.out.size)).alloc (by have := KB.out.size; have := hb5.size; omega) (.cells #[.int .u8 0, .int .u8 0, .int .u8 0, .int .u8 0, .int .u8 0, .int .u8 0] 23))
    clear hb5
    go_wp2_with fail
    have S6 : Hid ((w5.alloc (.cells #[.int .u8 0, .int .u8 0, .int .u8 0, .int .u8 0, .int .u8 0, .int .u8 0] 23)).heap.size = w5.heap.size + 1) := by show _ = _; simp
    generalize w5.alloc (.cells #[.int .u8 0, .int .u8 0, .int .u8 0, .int .u8 0, .int .u8 0, .int .u8 0] 23) = w6 at *
    generalize w5.heap.size = G7 at *
    generalize w.heap.size = G2 at K0 K1 K2 ⊢
    have hrow : SmRow ((w6.alloc (.cells (bytesRow S (grownCap w6 S.size 0 5)) 5 ((bytesRow S (grownCap w6 S.size 0 5)).size, (bytesRow S (grownCap w6 S.size 0 5)).size + 1))).drew) w6.heap.size (lowN S.data.toList 0) := by
      refine ⟨bytesRow S (grownCap w6 S.size 0 5), _, heap_alloc_new w6 _, ?_, Nat.le_refl _, fun i hi => ?_⟩
      · rw [lowN_length, HSL.out]; simp [bytesRow]
      · rw [lowN_length, HSL.out] at hi
        rw [bytesRow_at S _ i hi]
        simp [lowN, bval, List.getD_eq_getElem?_getD]
        rw [Array.getElem?_eq_getElem hi]
        rfl
    have ht : TX w G2 G5 G7 w6.heap.size #[.int .u8 (a0.toNat : Int), .int .u8 (a1.toNat : Int), .int .u8 (a2.toNat : Int), .int .u8 (a3.toNat : Int), .int .u8 (a4.toNat : Int), .int .u8 (a5.toNat : Int)] #[.int .u8 (a0.toNat : Int), .int .u8 (a1.toNat : Int), .int .u8 (a2.toNat : Int), .int .u8 (a3.toNat : Int), .int .u8 (a4.toNat : Int), .int .u8 (a5.toNat : Int)] #[.int .u8 0, .int .u8 0, .int .u8 0, .int .u8 0, .int .u8 0, .int .u8 0] (lowN S.data.toList 0) ((w6.alloc (.cells (bytesRow S (grownCap w6 S.size 0 5)) 5 ((bytesRow S (grownCap w6 S.size 0 5)).size, (bytesRow S (grownCap w6 S.size 0 5)).size + 1))).drew) :=
      ⟨blk_old K0.out _, blk_old K1.out _, blk_old K2.out _, hrow, KB.out.size, by have := K0.out.lt; omega, by have := K1.out.lt; omega, by have := K2.out.lt; omega, below_drew (KB.out.alloc KB.out.size _)⟩
    rw [S6.out] at ht
    have HT := Lib.hid ht
    clear ht hrow K0 K1 K2 KB hcv S6
    generalize (w6.alloc (.cells (bytesRow S (grownCap w6 S.size 0 5)) 5 ((bytesRow S (grownCap w6 S.size 0 5)).size, (bytesRow S (grownCap w6 S.size 0 5)).size + 1))).drew = w7 at *
    generalize grownCap w6 S.size 0 5 = cap at *
    generalize G7 + 1 = g at *
    go_loopw [10] (fun i wr => ∃ k : Nat, k ≤ S.size ∧ i = .int .i64 k ∧ TX w G2 G5 G7 g #[.int .u8 (a0.toNat : Int), .int .u8 (a1.toNat : Int), .int .u8 (a2.toNat : Int), .int .u8 (a3.toNat : Int), .int .u8 (a4.toNat : Int), .int .u8 (a5.toNat : Int)] #[.int .u8 (a0.toNat : Int), .int .u8 (a1.toNat : Int), .int .u8 (a2.toNat : Int), .int .u8 (a3.toNat : Int), .int .u8 (a4.toNat : Int), .int .u8 (a5.toNat : Int)] #[.int .u8 0, .int .u8 0, .int .u8 0, .int .u8 0, .int .u8 0, .int .u8 0] (lowN S.data.toList k) wr) (fun i _ => S.size - (intOf i).toNat)
    case atStart => exact ⟨0, by omega, rfl, HT.out⟩
    case round =>
      obtain ⟨k, hk, rfl, ht⟩ := hrel
      clear HT
      have HT := Lib.hid ht
      clear ht
      by_cases hlt : k < S.size
      · have hll : k < (lowN S.data.toList k).length := by rw [lowN_length, HSL.out]; exact hlt
        have cc := HT.out.row.cell k hll
        have ff := HT.out.row.free k hll
        rw [lowN_get _ _ (by rw [HSL.out]; exact hlt)] at cc
        have SAME : Hid (low (S.data.toList.getD k 0) = S.data.toList.getD k 0 → lowN S.data.toList k = lowN S.data.toList (k + 1)) := lowN_same _ _ (by rw [HSL.out]; exact hlt)
        have SET : Hid ((lowN S.data.toList k).set k (low (S.data.toList.getD k 0)) = lowN S.data.toList (k + 1)) := lowN_set _ _ (by rw [HSL.out]; exact hlt)
        obtain ⟨x, EX⟩ : ∃ x, Hid (S.data.toList.getD k 0 = x) := ⟨_, rfl⟩
        rw [EX.out] at cc SAME SET
        have xl := x.toNat_lt
        clear hll
        by_cases h1 : 65 ≤ x.toNat
        · by_cases h2 : x.toNat ≤ 70
          · have PUT := Lib.hid (HT.out.put k (low x) ((x.toNat : Int) + 32) (by rw [low, if_pos ⟨h1, h2⟩, UInt8.toNat_ofNat']; omega))
            rw [SET.out] at PUT
            go_wp2_with fail
            go_roundw
            case rel => exact ⟨k + 1, by omega, by go_num, PUT.out⟩
            case measure => simp [intOf]; omega
          · have LS := Lib.hid (SAME.out (by rw [low, if_neg (fun h => h2 h.2)]))
            go_wp2_with fail
            go_roundw
            case rel => exact ⟨k + 1, by omega, by go_num, by rw [← LS.out]; exact HT.out⟩
            case measure => simp [intOf]; omega
        · have LS := Lib.hid (SAME.out (by rw [low, if_neg (fun h => h1 h.1)]))
          go_wp2_with fail
          go_roundw
          case rel => exact ⟨k + 1, by omega, by go_num, by rw [← LS.out]; exact HT.out⟩
          case measure => simp [intOf]; omega
      · obtain rfl : k = S.size := by omega
        replace HT := Lib.hid (HT.out.same (show lowN S.data.toList S.size = S.data.toList.map low by rw [← HSL.out, lowN_all]))
        have HL7 : Hid ((S.data.toList.map low).length = S.size) := by show _ = _; rw [List.length_map, HSL.out]
        clear hk hlt
        go_wp2_with fail
        obtain ⟨d00, d01, d02, d03, d04, d05⟩ := HT.out.b0.cells6
        obtain ⟨d10, d11, d12, d13, d14, d15⟩ := HT.out.b1.cells6
        obtain ⟨d20, d21, d22, d23, d24, d25⟩ := HT.out.b2.cells6
        go_quiet (fail)
        go_wp2_with fail
        go_ret
        exact ⟨by simp, below_drewN HT.out.bel _⟩
end Go.Proofs.Ythchjfkbaocoiaa
