/-
  The walk of the reference's Clear.
-/
import Derived.Test.YtphicjokogljcaaRefTally3
namespace Go.Proofs.Ytphicjokogljcaa
open Go.RowKit
set_option linter.unusedVariables false

def rclearL (N : Int) (L : List Cnt) (p : Int) : List Cnt := if 0 ≤ p ∧ p < N then L.filter (fun c => decide (c.p ≠ p.toNat)) else L
def RCleared (B g : Nat) (N : Int) (L : List Cnt) (p : Int) (row : Option Nat) (w : World) (e : Ending) (w' : World) : Prop :=
  e = .returned (.int .i64 (clearE N p)) ∧ (∃ A c, RefT w' B g N A c (rclearL N L p)) ∧ Below B w w' ∧ Kept g row w w'
theorem filter_take (f : Cnt → Bool) (L : List Cnt) (n : Nat) (x : Cnt) (hx : L[n]? = some x) : (L.take (n + 1)).filter f = if f x then (L.take n).filter f ++ [x] else (L.take n).filter f := by
  rw [List.take_add_one, hx, List.filter_append]
  cases h : f x <;> simp [h]

theorem owns_mono {w : World} {base base' : Nat} {e : TypeId} {size : Nat} {v : Value} {n : Nat} {xs : List Value} (h : w.ownsRow base e size v n xs) (hb : base' ≤ base) : w.ownsRow base' e size v n xs :=
  ⟨h.1, h.2.imp id (fun ⟨g, cap, cur, a, b, r⟩ => ⟨g, cap, cur, a, Nat.le_trans hb b, r⟩)⟩

set_option maxHeartbeats 8000000 in
set_option maxRecDepth 100000 in
theorem rclear_any (B g c : Nat) (N : Int) (A : Option Addr) (L : List Cnt) (p : Int) (w : World) (h : RefT w B g N A c L) (hl : L.length ≤ 60) (row : Option Nat) :
    Calls Try.prog 26 #[.pointer (some ⟨g, 0, none⟩), .int .i64 p] w (RCleared B g N L p row w) := by
  have c0 := h.blk.cell 0
  simp only [List.getElem?_toArray, List.getElem?_cons_zero] at c0
  have H := Lib.hid h
  have HL := Lib.hid hl
  clear h hl
  by_cases h1 : p < 0
  · have BAD : Hid (¬ (0 ≤ p ∧ p < N)) := fun hh => by omega
    go_enter Try.func26, Try.ntmps26
    go_wp2_with fail
    go_ret
    exact ⟨by rw [clearE, if_neg BAD.out]; rfl, ⟨A, c, by rw [rclearL, if_neg BAD.out]; exact H.out⟩, Below.refl _ _, fun _ _ _ _ => rfl⟩
  by_cases h2 : N ≤ p
  · have BAD : Hid (¬ (0 ≤ p ∧ p < N)) := fun hh => by omega
    go_enter Try.func26, Try.ntmps26
    go_wp2_with fail
    go_ret
    exact ⟨by rw [clearE, if_neg BAD.out]; rfl, ⟨A, c, by rw [rclearL, if_neg BAD.out]; exact H.out⟩, Below.refl _ _, fun _ _ _ _ => rfl⟩
  have OK : Hid (0 ≤ p ∧ p < N) := by show _ ∧ _; omega
  have hst : OwnC (w.alloc (.cells #[] 62)) w.heap.size (some ⟨w.heap.size, 0, none⟩) 0 [] := World.ownsRow_made w #[] 0 (Nat.le_refl _) (by simp [maxLen]) rfl
  have HST := Lib.hid hst
  clear hst
  obtain ⟨i0, hi, hz0, hz1, hz2⟩ := info_parts' info_cnt
  go_enter Try.func26, Try.ntmps26
  go_wp2_with fail
  go_loopw [5, 6] (fun s i wr => ∃ (n : Nat) (A' : Option Addr) (c' : Nat), n ≤ L.length ∧ i = .int .i64 n ∧ s = .slice A' ((L.take n).filter (fun x => decide (x.p ≠ p.toNat))).length c' ∧ OwnC wr w.heap.size A' c' ((L.take n).filter (fun x => decide (x.p ≠ p.toNat))) ∧ Below w.heap.size w wr) (fun _ i _ => L.length - (intOf i).toNat)
  case atStart => exact ⟨0, some ⟨w.heap.size, 0, none⟩, 0, by omega, rfl, rfl, by simpa using HST.out, (Below.refl _ _).alloc (Nat.le_refl _) _⟩
  case round =>
    obtain ⟨n, A', c', hn, rfl, rfl, ho, hb⟩ := hrel
    have hr := H.out.below hb
    have c1 := hr.blk.cell 1
    simp only [List.getElem?_toArray, List.getElem?_cons_zero, List.getElem?_cons_succ] at c1
    have hl60 := HL.out
    have HR := Lib.hid hr
    have HB := Lib.hid hb
    by_cases hlt : n < L.length
    · obtain ⟨r, rfl, hr1, hr2⟩ := hr.own.form (by omega)
      obtain ⟨x, hx⟩ : ∃ x, L[n]? = some x := ⟨_, List.getElem?_eq_getElem hlt⟩
      have d0 := hr.own.cell n 0 x hx (by omega)
      have d1 := hr.own.cell n 1 x hx (by omega)
      have d2 := hr.own.cell n 2 x hx (by omega)
      have d3 := hr.own.cell n 3 x hx (by omega)
      simp only [cval, List.getElem?_cons_zero, List.getElem?_cons_succ, Nat.add_zero] at d0 d1 d2 d3
      have hF := filter_take (fun x => decide (x.p ≠ p.toNat)) L n x hx
      have hlt' : (n : Int) < (L.length : Int) := by omega
      have HN : Hid (L.length - (n + 1) < L.length - n) := by show _ < _; omega
      have hfl : ((L.take n).filter (fun x => decide (x.p ≠ p.toNat))).length ≤ 60 := Nat.le_trans (List.length_filter_le _ _) (by rw [List.length_take]; omega)
      obtain ⟨F, EF⟩ : ∃ z, Hid ((L.take n).filter (fun x => decide (x.p ≠ p.toNat)) = z) := ⟨_, rfl⟩
      rw [EF.out] at hF hfl ho ⊢
      have HF := Lib.hid hF
      have HO := Lib.hid ho
      clear hx hF hr hb hr1 hr2 ho
      obtain ⟨LL, HLL⟩ : ∃ z, Hid (L.length = z) := ⟨_, rfl⟩
      rw [HLL.out] at hn hl60 hlt hlt' c1 HN ⊢
      cases hq : ((x.p : Int) != p)
      · have Y : Hid ((L.take (n + 1)).filter (fun x => decide (x.p ≠ p.toNat)) = F) := by
          show _ = _
          rw [HF.out, if_neg]
          have : (x.p : Int) = p := by simpa using hq
          simp
          omega
        go_wp2_with fail
        go_roundw
        case rel => exact ⟨n + 1, A', c', by omega, by go_num, by rw [Y.out], by rw [Y.out]; exact HO.out, HB.out⟩
        case measure => simp [intOf]; exact HN.out
      · have Y : Hid ((L.take (n + 1)).filter (fun x => decide (x.p ≠ p.toNat)) = F ++ [x]) := by
          show _ = _
          rw [HF.out, if_pos]
          have : (x.p : Int) ≠ p := by simpa using hq
          simp
          omega
        have HO2 := Lib.hid (World.ownsRow.alloc HO.out (.cells #[.int .i64 x.p, .int .i64 x.k, .int .i64 x.i, .int .i64 x.o] 62))
        have hsz := HB.out.size
        go_wp2_with (at_builtin; go_loud (refine wpList_append_lies _ rfl _ _ _ rfl w.heap.size 62 i0 _ 4 32 Try.underlying58 hi hz0 hz1 hz2 rfl (by decide) (.slice A' F.length c') F.length (F.flatMap cval) rfl HO2.out ⟨wr.heap.size, 0, none⟩ 1 1 [.int .i64 x.p, .int .i64 x.k, .int .i64 x.i, .int .i64 x.o] rfl rfl (World.news_of_block (cs := #[.int .i64 x.p, .int .i64 x.k, .int .i64 x.i, .int .i64 x.o]) (t := 62) (fr := (0, 0)) (heap_alloc_new wr _)) (by simp [Value.oneCell']) (by omega) (by simp only [maxLen]; omega) (by omega) (by simp; omega) (wr.heap.size + 1) (by simp) ?_; intro rr cap w2 ho hg hat hlt))
        have K1 := Lib.hid (OwnC.snoc ho)
        have K2 := Lib.hid ((HB.out.alloc hsz _).grown hg (by simp; omega) (fun k hk => (World.ownsRow.lt HO2.out k hk).1))
        clear ho hg hat
        go_roundw
        case rel => exact ⟨n + 1, some ⟨rr, 0, none⟩, cap, by omega, by go_num, by rw [Y.out]; simp, by rw [Y.out]; have := K1.out; unfold OwnC; simpa using this, K2.out⟩
        case measure => simp [intOf]; exact HN.out
    · have e : n = L.length := by omega
      subst e
      rw [List.take_length] at ho ⊢
      obtain ⟨F, EF⟩ : ∃ z, Hid (L.filter (fun x => decide (x.p ≠ p.toNat)) = z) := ⟨_, rfl⟩
      rw [EF.out] at ho ⊢
      have HO := Lib.hid ho
      have f1 := hr.blk.free 1
      clear ho hr hb
      go_wp2_with fail
      go_ret
      refine ⟨by rw [clearE, if_pos OK.out]; rfl, ⟨A', c', ?_⟩, ?_, fun q hq hqg _ => (Below.heap_setCell wr ⟨g, 1, none⟩ _ q (fun e => hqg e)).trans (HB.out.block q hq)⟩
      · rw [rclearL, if_pos OK.out, EF.out]
        refine ⟨HR.out.blk.set 1 _, ?_, HR.out.base⟩
        have hgB : g < w.heap.size := H.out.lt
        refine owns_mono (World.ownsRow.kept (row := some g) HO.out (grown_set' g 1 _) ?_) (by have := HR.out.base; omega)
        cases hv : (Value.slice A' F.length c').ownBlock with
        | none => exact .inl rfl
        | some q =>
          right
          have := (World.ownsRow.lt HO.out q hv).1
          simp
          omega
      · have hgB : g < w.heap.size := H.out.lt
        exact (HB.out.mono (by have := HR.out.base; omega)).setCell HR.out.base _
end Go.Proofs.Ytphicjokogljcaa
