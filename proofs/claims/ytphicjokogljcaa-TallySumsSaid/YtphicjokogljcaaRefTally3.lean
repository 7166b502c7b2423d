/-
  The walk of the reference's Add.
-/
import Derived.Test.YtphicjokogljcaaRefTally2
namespace Go.Proofs.Ytphicjokogljcaa
open Go.RowKit
set_option linter.unusedVariables false

def rfull (L : List Cnt) (p k i o : Int) : Prop := 70368744177664 < (rsum p k L).1 + i.toNat ∨ 70368744177664 < (rsum p k L).2 + o.toNat
instance (L : List Cnt) (p k i o : Int) : Decidable (rfull L p k i o) := by unfold rfull; infer_instance
def raddE (N : Int) (L : List Cnt) (p k i o : Int) : Int := if ok2 N p k i o then (if rfull L p k i o then 4 else 0) else 2
def raddL (N : Int) (L : List Cnt) (p k i o : Int) : List Cnt := if ok2 N p k i o then (if rfull L p k i o then L else L ++ [⟨p.toNat, k.toNat, i.toNat, o.toNat⟩]) else L
/-- No other block than g and the row is written. -/
def Kept (g : Nat) (row : Option Nat) (w w' : World) : Prop := ∀ k, k < w.heap.size → k ≠ g → some k ≠ row → w'.heap[k]? = w.heap[k]?
def RAdded (B g : Nat) (N : Int) (L : List Cnt) (p k i o : Int) (row : Option Nat) (w : World) (e : Ending) (w' : World) : Prop :=
  e = .returned (.int .i64 (raddE N L p k i o)) ∧ (∃ A c, RefT w' B g N A c (raddL N L p k i o)) ∧ Below B w w' ∧ Kept g row w w'

section
variable {w w' : World} {B g c : Nat} {N : Int} {A : Option Addr} {L : List Cnt}
theorem radded_bad {p k i o : Int} {row : Option Nat} (h : RefT w B g N A c L) (hb : ¬ ok2 N p k i o) : RAdded B g N L p k i o row w (.returned (.int .i64 2)) w :=
  ⟨by rw [raddE, if_neg hb], ⟨A, c, by rw [raddL, if_neg hb]; exact h⟩, Below.refl _ _, fun _ _ _ _ => rfl⟩
theorem radded_full {p k i o : Int} {row : Option Nat} (h : RefT w' B g N A c L) (hb : ok2 N p k i o) (hf : rfull L p k i o) (hw : Below B w w') (hk : Kept g row w w') : RAdded B g N L p k i o row w (.returned (.int .i64 4)) w' :=
  ⟨by rw [raddE, if_pos hb, if_pos hf], ⟨A, c, by rw [raddL, if_pos hb, if_pos hf]; exact h⟩, hw, hk⟩
theorem radded_ok {p k i o : Int} (hb : ok2 N p k i o) (hf : ¬ rfull L p k i o) (h : RefT w' B g N A c (L ++ [⟨p.toNat, k.toNat, i.toNat, o.toNat⟩])) (hw : Below B w w') {row : Option Nat} (hk : Kept g row w w') : RAdded B g N L p k i o row w (.returned (.int .i64 0)) w' :=
  ⟨by rw [raddE, if_pos hb, if_neg hf], ⟨A, c, by rw [raddL, if_pos hb, if_neg hf]; exact h⟩, hw, hk⟩
theorem OwnC.row (h : OwnC w B A c L) : A = none ∨ ∃ r cur, A = some ⟨r, 0, none⟩ ∧ B ≤ r ∧ w.heap[r]? = some (.cells cur 62 (0, 0)) := by
  rcases h.2 with ⟨h1, h0⟩ | ⟨r, cap, cur, hv, hb, hg, _⟩
  · injection h1 with h1
    exact .inl h1
  · injection hv with h1
    exact .inr ⟨r, cur, h1, hb, hg⟩
theorem RefT.apart (h : RefT w B g N A c L) : some g ≠ (Value.slice A L.length c).ownBlock := by
  rcases h.own.row with h1 | ⟨r, cur, rfl, _, hr⟩
  · rw [h1]; simp [Value.ownBlock]
  · intro he
    simp [Value.ownBlock] at he
    have hb := h.blk
    unfold Blk at hb
    rw [he, hr] at hb
    injection hb with hb
    injection hb with _ hb
    cases hb
theorem RefT.rowB (h : RefT w B g N A c L) : ∀ k, (Value.slice A L.length c).ownBlock = some k → B ≤ k := by
  intro k hk
  rcases h.own.row with h1 | ⟨r, cur, rfl, hb, _⟩
  · rw [h1] at hk; simp [Value.ownBlock] at hk
  · simp [Value.ownBlock] at hk; omega
theorem RefT.lt (h : RefT w B g N A c L) : g < w.heap.size := h.blk.lt
theorem OwnC.snoc {x : Cnt} {v : Value} (h : w.ownsRow B 62 4 v (L.length + 1) (L.flatMap cval ++ [.int .i64 x.p, .int .i64 x.k, .int .i64 x.i, .int .i64 x.o])) : w.ownsRow B 62 4 v (L ++ [x]).length ((L ++ [x]).flatMap cval) := by
  rw [List.length_append, List.flatMap_append]
  simpa [cval] using h
end

theorem info_cnt : (Try.prog.info? 62).map (fun i => (i.zero, i.size, i.bytes)) = some (some (.agg #[.int .i64 0, .int .i64 0, .int .i64 0, .int .i64 0]), 4, 32) := by kernel_rfl
theorem info_parts' {t : TypeId} {z : Value} {s b : Nat} (h : (Try.prog.info? t).map (fun i => (i.zero, i.size, i.bytes)) = some (some z, s, b)) : ∃ i, Try.prog.info? t = some i ∧ i.zero = some z ∧ i.size = s ∧ i.bytes = b := by
  cases hi : Try.prog.info? t with
  | none => rw [hi] at h; simp at h
  | some i => rw [hi] at h; simp at h; exact ⟨i, rfl, h.1, h.2.1, h.2.2⟩

set_option maxHeartbeats 8000000 in
set_option maxRecDepth 100000 in
theorem radd_any (B g c : Nat) (N : Int) (A : Option Addr) (L : List Cnt) (p k i o : Int) (w : World) (h : RefT w B g N A c L) (hf : FewC L) (hl : L.length < 60) :
    Calls Try.prog 27 #[.pointer (some ⟨g, 0, none⟩), .int .i64 p, .int .i64 k, .int .i64 i, .int .i64 o] w (RAdded B g N L p k i o (Value.slice A L.length c).ownBlock w) := by
  have c0 := h.blk.cell 0
  simp only [List.getElem?_toArray, List.getElem?_cons_zero] at c0
  have BAD := Lib.hid (fun hb => radded_bad (p := p) (k := k) (i := i) (o := o) (row := (Value.slice A L.length c).ownBlock) h hb)
  have H := Lib.hid h
  have HF := Lib.hid hf
  have HL := Lib.hid hl
  clear h hf hl
  by_cases h1 : p < 0
  · go_enter Try.func27, Try.ntmps27
    go_wp2_with fail
    go_ret
    exact BAD.out (fun hh => by have := hh.1.1; omega)
  by_cases h2 : N ≤ p
  · go_enter Try.func27, Try.ntmps27
    go_wp2_with fail
    go_ret
    exact BAD.out (fun hh => by have := hh.1.2.1; omega)
  by_cases h3 : k < 0
  · go_enter Try.func27, Try.ntmps27
    go_wp2_with fail
    go_ret
    exact BAD.out (fun hh => by have := hh.1.2.2; omega)
  by_cases h4 : 7 < k
  · go_enter Try.func27, Try.ntmps27
    go_wp2_with fail
    go_ret
    exact BAD.out (fun hh => by have := hh.1.2.2; omega)
  cases h5 : fewB i
  · have H5 := Lib.hid h5
    clear h5
    go_enter Try.func27, Try.ntmps27
    go_wp2_with fail
    refine (rfew_any i _).mono ?_
    rw [H5.out]
    rintro e w' ⟨rfl, rfl⟩
    go_wp2_with fail
    go_ret
    exact BAD.out (fun hh => by have h6 := hh.2.1; rw [H5.out] at h6; cases h6)
  cases h6 : fewB o
  · have H5 := Lib.hid h5
    have H6 := Lib.hid h6
    clear h5 h6
    go_enter Try.func27, Try.ntmps27
    go_wp2_with fail
    refine (rfew_any i _).mono ?_
    rw [H5.out]
    rintro e w' ⟨rfl, rfl⟩
    go_wp2_with fail
    refine (rfew_any o _).mono ?_
    rw [H6.out]
    rintro e w' ⟨rfl, rfl⟩
    go_wp2_with fail
    go_ret
    exact BAD.out (fun hh => by have h6 := hh.2.2; rw [H6.out] at h6; cases h6)
  have OK : Hid (ok2 N p k i o) := ⟨⟨by omega, by omega, by omega, by omega⟩, h5, h6⟩
  have i0 : 0 ≤ i ∧ i ≤ 4294967296 := by unfold fewB at h5; simpa using h5
  have o0 : 0 ≤ o ∧ o ≤ 4294967296 := by unfold fewB at h6; simpa using h6
  have H5 := Lib.hid h5
  have H6 := Lib.hid h6
  clear h5 h6 BAD
  have hs := HF.out.sum p k L.length
  rw [List.take_length] at hs
  obtain ⟨a, EA⟩ : ∃ z : Int, Hid (((rsum p k L).1 : Int) = z) := ⟨_, rfl⟩
  obtain ⟨b, EB⟩ : ∃ z : Int, Hid (((rsum p k L).2 : Int) = z) := ⟨_, rfl⟩
  have ha : 0 ≤ a ∧ a ≤ 257698037760 := by have := EA.out; omega
  have hb : 0 ≤ b ∧ b ≤ 257698037760 := by have := EB.out; omega
  have w1 : wrap64 (70368744177664 - a) = 70368744177664 - a := IntWalk.wrap64_in _ (by omega)
  have w2 : wrap64 (70368744177664 - b) = 70368744177664 - b := IntWalk.wrap64_in _ (by omega)
  have FU : Hid (rfull L p k i o ↔ 70368744177664 - a < i ∨ 70368744177664 - b < o) := by
    show _ ↔ _
    unfold rfull
    have := EA.out
    have := EB.out
    omega
  have I0 := Lib.hid i0
  have O0 := Lib.hid o0
  clear i0 o0 ha hb hs c0
  go_enter Try.func27, Try.ntmps27
  have c0 := H.out.blk.cell 0
  simp only [List.getElem?_toArray, List.getElem?_cons_zero] at c0
  go_wp2_with fail
  refine (rfew_any i _).mono ?_
  rw [H5.out]
  rintro e w' ⟨rfl, rfl⟩
  go_wp2_with fail
  refine (rfew_any o _).mono ?_
  rw [H6.out]
  rintro e w' ⟨rfl, rfl⟩
  go_wp2_with fail
  refine (rsum_any B g c N A L p k _ H.out HF.out).mono ?_
  rw [EA.out, EB.out]
  rintro e w1 ⟨rfl, hw⟩
  have hBw : B ≤ w.heap.size := by have := H.out.base; have := H.out.lt; omega
  replace H := Lib.hid (H.out.below hw)
  have HW := Lib.hid (hw.mono hBw)
  have KW : Hid (Kept g (Value.slice A L.length c).ownBlock w w1) := fun k hk _ _ => hw.block k hk
  have SZ : Hid (w.heap.size ≤ w1.heap.size) := hw.size
  clear hw c0 hBw
  by_cases g1 : 70368744177664 - a < i
  · go_wp2_with fail
    go_ret
    exact radded_full H.out OK.out (FU.out.2 (.inl g1)) HW.out KW.out
  by_cases g2 : 70368744177664 - b < o
  · go_wp2_with fail
    go_ret
    exact radded_full H.out OK.out (FU.out.2 (.inr g2)) HW.out KW.out
  have NF : Hid (¬ rfull L p k i o) := fun hh => by rcases FU.out.1 hh with hh | hh <;> omega
  clear FU
  obtain ⟨i0, hi, hz0, hz1, hz2⟩ := info_parts' info_cnt
  have c1 := H.out.blk.cell 1
  simp only [List.getElem?_toArray, List.getElem?_cons_zero, List.getElem?_cons_succ] at c1
  have lg := H.out.lt
  have hBs : B ≤ w1.heap.size := by have := H.out.base; omega
  have FIN : Hid (∀ (r cap : Nat) (w2 : World), w2.ownsRow B 62 4 (.slice (some ⟨r, 0, none⟩) (L.length + 1) cap) (L.length + 1) (L.flatMap cval ++ [.int .i64 p, .int .i64 k, .int .i64 i, .int .i64 o]) →
      (w1.alloc (.cells #[.int .i64 p, .int .i64 k, .int .i64 i, .int .i64 o] 62)).grownBy w2 (Value.slice A L.length c).ownBlock → ((Value.slice A L.length c).ownBlock = some r ∨ r = w1.heap.size + 1) → r < w2.heap.size →
      w2.frozen? ⟨g, 1, none⟩ = false ∧ w2.cell? ⟨g, 1, none⟩ = some (.slice A L.length c) ∧ RAdded B g N L p k i o (Value.slice A L.length c).ownBlock w (.returned (.int .i64 0)) (w2.setCell ⟨g, 1, none⟩ (.slice (some ⟨r, 0, none⟩) (L.length + 1) cap))) := by
    intro r cap w2 ho hg hat hlt
    have hbk : w2.heap[g]? = w1.heap[g]? := (hg.block g (by simp; omega) H.out.apart).trans (Below.heap_alloc _ _ _ lg)
    have hB2 : Blk w2 g 60 #[.int .i64 N, .slice A L.length c] := hbk.trans H.out.blk
    have hne : g ≠ r := by
      rcases hat with h1 | h1
      · exact fun e => H.out.apart (by rw [h1, e])
      · omega
    refine ⟨hB2.free 1, hB2.cell 1, ?_⟩
    have e0 : ((p.toNat : Int) = p ∧ (k.toNat : Int) = k ∧ (i.toNat : Int) = i ∧ (o.toNat : Int) = o) := by
      have := I0.out
      have := O0.out
      omega
    have hq : w2.ownsRow B 62 4 (.slice (some ⟨r, 0, none⟩) (L.length + 1) cap) (L ++ [(⟨p.toNat, k.toNat, i.toNat, o.toNat⟩ : Cnt)]).length ((L ++ [(⟨p.toNat, k.toNat, i.toNat, o.toNat⟩ : Cnt)]).flatMap cval) := by
      refine OwnC.snoc ?_
      rw [e0.1, e0.2.1, e0.2.2.1, e0.2.2.2]
      exact ho
    have hl1 : (L ++ [(⟨p.toNat, k.toNat, i.toNat, o.toNat⟩ : Cnt)]).length = L.length + 1 := by simp
    refine radded_ok (A := some ⟨r, 0, none⟩) (c := cap) OK.out NF.out ⟨?_, ?_, H.out.base⟩ ?_ ?_
    · rw [hl1]
      exact hB2.set 1 _
    · unfold OwnC
      rw [← hl1] at hq
      exact World.ownsRow.kept (row := some g) hq (grown_set' g 1 _) (.inr (by simp [Value.ownBlock]; omega))
    · exact ((HW.out.alloc hBs _).grown hg (by simp; omega) (H.out.rowB)).setCell H.out.base _
    · intro q hq hqg hqr
      have := SZ.out
      exact ((Below.heap_setCell w2 ⟨g, 1, none⟩ _ q (fun e => hqg e)).trans (hg.block q (by simp; omega) hqr)).trans ((Below.heap_alloc _ _ _ (by omega)).trans (KW.out q hq hqg hqr))
  have hown := (H.out.own).alloc (.cells #[.int .i64 p, .int .i64 k, .int .i64 i, .int .i64 o] 62)
  have HO := Lib.hid hown
  have hll := HL.out
  clear hown
  go_wp2_with (at_builtin; go_loud (refine wpList_append_lies _ rfl _ _ _ rfl B 62 i0 _ 4 32 Try.underlying58 hi hz0 hz1 hz2 rfl (by decide) (.slice A L.length c) L.length (L.flatMap cval) rfl HO.out ⟨w1.heap.size, 0, none⟩ 1 1 [.int .i64 p, .int .i64 k, .int .i64 i, .int .i64 o] rfl rfl (World.news_of_block (cs := #[.int .i64 p, .int .i64 k, .int .i64 i, .int .i64 o]) (t := 62) (fr := (0, 0)) (heap_alloc_new w1 _)) (by simp [Value.oneCell']) (by omega) (by simp only [maxLen]; omega) (by omega) (by simp; omega) (w1.heap.size + 1) (by simp) ?_; intro r cap w2 ho hg hat hlt; have FZ := FIN.out r cap w2 ho hg hat hlt; have fz := FZ.1; have cz := FZ.2.1))
  go_ret
  exact FZ.2.2
end Go.Proofs.Ytphicjokogljcaa
