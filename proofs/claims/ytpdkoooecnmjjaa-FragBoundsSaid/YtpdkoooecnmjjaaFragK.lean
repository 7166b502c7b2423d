/-
  The walk of clash.
-/
import Derived.Test.YtpdkoooecnmjjaaFragJ
namespace Go.Proofs.Ytpdkoooecnmjjaa
open Go.RowKit
set_option linter.unusedVariables false

section
variable {w : World} {B c : Nat} {bs : List Bool} {A : Option Addr}
theorem OwnB.form (h : OwnB w B A c bs) (hp : 0 < bs.length) : ∃ g, A = some ⟨g, 0, none⟩ ∧ B ≤ g ∧ g < w.heap.size := by
  rcases h.2 with ⟨hv, h0⟩ | ⟨g, cap, cur, hv, hb, hg, _⟩
  · omega
  · injection hv with h1
    exact ⟨g, h1, hb, (Array.getElem?_eq_some_iff.1 hg).1⟩
theorem OwnB.cell {g : Nat} (h : OwnB w B (some ⟨g, 0, none⟩) c bs) (j : Nat) (hj : j < bs.length) : w.cell? ⟨g, j, none⟩ = some (.bool (bs.getD j false)) := by
  rw [World.ownsRow.cellAt h j (by omega), List.getElem?_map, List.getElem?_eq_getElem hj, List.getD_eq_getElem?_getD, List.getElem?_eq_getElem hj]
  rfl
theorem OwnB.free {g : Nat} (h : OwnB w B (some ⟨g, 0, none⟩) c bs) (j : Nat) : w.frozen? ⟨g, j, none⟩ = false := World.ownsRow.frozenAt h j
end
/-- Is a byte there, and another one? -/
def clashL : Nat → List UInt8 → List UInt8 → List Bool → Bool
  | _, [], _, _ => false
  | k, b :: bs, D, H => (decide (k < D.length) && H.getD k false && (((D.getD k 0).toNat : Int) != (b.toNat : Int))) || clashL (k + 1) bs D H
def clashH (x : WP) (E : Int) (more : Bool) : Bool :=
  ((x.fin != -1) && (decide (x.fin < E) || (!more && (E != x.fin)))) || (!more && decide (E < (x.data.length : Int)))
def clashB (x : WP) (a : Nat) (d : List UInt8) (more : Bool) : Bool :=
  clashH x ((a : Int) + d.length) more || clashL a d x.data x.has
theorem clash_drop (a : Nat) (d D : List UInt8) (H : List Bool) (i : Nat) (hi : i < d.length) :
    clashL (a + i) (d.drop i) D H = ((decide (a + i < D.length) && H.getD (a + i) false && (((D.getD (a + i) 0).toNat : Int) != ((d.getD i 0).toNat : Int))) || clashL (a + (i + 1)) (d.drop (i + 1)) D H) := by
  have e : d.drop i = d.getD i 0 :: d.drop (i + 1) := by
    rw [List.getD_eq_getElem?_getD, List.getElem?_eq_getElem hi]
    exact List.drop_eq_getElem_cons hi
  rw [e, clashL]
  rfl

set_option maxHeartbeats 8000000 in
set_option maxRecDepth 100000 in
theorem clash_any {w : World} {B : Nat} {x : WX} (o : WAt w B x) (hlen : x.has.length = x.data.length) (a : Nat) (AT : Int) (hA : (a : Int) = AT) (hA1 : AT ≤ 600000) (id at_ life kind : Int) (wh mo : Bool) (f t : Int) (D : Option Addr) (n q : Nat) (d : List UInt8) (hn : d.length = n) (hn1 : (n : Int) ≤ 70000) (hs : Sl w D q d) :
    Calls Try.prog 17 #[PV x.g, .int .i64 AT, .agg (pkV id at_ life kind wh mo f t D n q)] w fun e w' => e = .returned (.bool (clashB x.pure a d mo)) ∧ Below w.heap.size w w' := by
  have hb1 : Below w.heap.size w (w.alloc (.cells (pkV id at_ life kind wh mo f t D n q) 33)) := (Below.refl _ _).alloc (Nat.le_refl _) _
  have hbp := blk_new w 33 (pkV id at_ life kind wh mo f t D n q)
  have o1 := o.below hb1
  have hs1 := hs.below hb1
  have HB1 := Lib.hid hb1
  have HN := Lib.hid hn
  obtain ⟨E, EE⟩ : ∃ z : Int, Hid ((a : Int) + d.length = z) := ⟨_, rfl⟩
  have hend : wrap64 (AT + (n : Int)) = E := (IntWalk.wrap64_in _ ⟨by omega, by omega⟩).trans (by rw [← EE.out, hn, hA])
  have HAA := Lib.hid hA
  have HA1 := Lib.hid hA1
  have HN1 := Lib.hid hn1
  have HLEN := Lib.hid hlen
  have A0 : Hid (0 ≤ AT) := by show _ ≤ _; omega
  obtain ⟨z, EZ⟩ : ∃ z, Hid (clashB x.pure a d mo = z) := ⟨_, rfl⟩
  rw [EZ.out]
  clear hb1 hs o hA hA1 hn1 hn hlen
  go_enter Try.func17, Try.ntmps17
  go_upto_region 1 with fail
  generalize w.alloc (.cells (pkV id at_ life kind wh mo f t D n q) 33) = w1 at *
  have p5 : w1.cell? ⟨w.heap.size, 5, none⟩ = some (.bool mo) := hbp.cell 5
  have p8 : w1.cell? ⟨w.heap.size, 8, none⟩ = some (.slice D n q) := hbp.cell 8
  go_upto_region 2 with fail
  simp only [hend]
  obtain ⟨dl, EDL⟩ : ∃ z, Hid (x.data.length = z) := ⟨_, rfl⟩
  have EZ2 : Hid ((clashH x.pure E mo || clashL a d x.data x.has) = z) := by
    have := EZ.out
    unfold clashB at this
    rw [EE.out] at this
    exact this
  have c6 : w1.cell? ⟨x.g, 6, none⟩ = some (.int .i64 x.fin) := o1.blk.cell 6
  have c8 : w1.cell? ⟨x.g, 8, none⟩ = some (.slice x.dA dl x.dc) := by have := o1.blk.cell 8; rw [← EDL.out]; exact this
  have c9 : w1.cell? ⟨x.g, 9, none⟩ = some (.slice x.hA dl x.hc) := by have h9 : w1.cell? ⟨x.g, 9, none⟩ = some (.slice x.hA x.has.length x.hc) := o1.blk.cell 9; rw [HLEN.out, EDL.out] at h9; exact h9
  have HO := Lib.hid o1
  have HS := Lib.hid hs1
  clear o1 hs1 EZ hend
  obtain ⟨fin, EF⟩ : ∃ z, Hid (x.fin = z) := ⟨_, rfl⟩
  rw [EF.out] at c6
  have TRU : Hid (clashH x.pure E mo = true → z = true) := fun h => by rw [← EZ2.out, h]; rfl
  have LOO : Hid (clashH x.pure E mo = false → clashL a d x.data x.has = z) := fun h => by rw [← EZ2.out, h]; rfl
  have DEF : Hid (clashH x.pure E mo = (((fin != -1) && (decide (fin < E) || (!mo && (E != fin)))) || (!mo && decide (E < (dl : Int))))) := by
    show _ = _
    rw [← EF.out, ← EDL.out]
    rfl
  clear EZ2
  have SPLIT : (mo = false ∧ (fin != -1) = false ∧ E < (dl : Int) ∧ z = true) ∨ (mo = false ∧ (fin != -1) = true ∧ fin < E ∧ z = true) ∨ (mo = false ∧ (fin != -1) = true ∧ ¬ fin < E ∧ (E != fin) = true ∧ z = true) ∨
      (mo = false ∧ (fin != -1) = true ∧ ¬ fin < E ∧ (E != fin) = false ∧ E < (dl : Int) ∧ z = true) ∨ (mo = true ∧ (fin != -1) = true ∧ fin < E ∧ z = true) ∨
      (mo = false ∧ (fin != -1) = false ∧ ¬ E < (dl : Int) ∧ Hid (clashL a d x.data x.has = z)) ∨ (mo = false ∧ (fin != -1) = true ∧ ¬ fin < E ∧ (E != fin) = false ∧ ¬ E < (dl : Int) ∧ Hid (clashL a d x.data x.has = z)) ∨
      (mo = true ∧ (fin != -1) = false ∧ Hid (clashL a d x.data x.has = z)) ∨ (mo = true ∧ (fin != -1) = true ∧ ¬ fin < E ∧ Hid (clashL a d x.data x.has = z)) := by
    have hd := DEF.out
    cases mo
    · cases h1 : (fin != -1)
      · by_cases h5 : E < (dl : Int)
        · exact .inl ⟨rfl, rfl, h5, TRU.out (by rw [hd, h1]; simp [h5])⟩
        · exact .inr (.inr (.inr (.inr (.inr (.inl ⟨rfl, rfl, h5, LOO.out (by rw [hd, h1]; simp [h5])⟩)))))
      · by_cases h2 : fin < E
        · exact .inr (.inl ⟨rfl, rfl, h2, TRU.out (by rw [hd, h1]; simp [h2])⟩)
        · cases h4 : (E != fin)
          · by_cases h5 : E < (dl : Int)
            · exact .inr (.inr (.inr (.inl ⟨rfl, rfl, h2, rfl, h5, TRU.out (by rw [hd, h1, h4]; simp [h2, h5])⟩)))
            · exact .inr (.inr (.inr (.inr (.inr (.inr (.inl ⟨rfl, rfl, h2, rfl, h5, LOO.out (by rw [hd, h1, h4]; simp [h2, h5])⟩))))))
          · exact .inr (.inr (.inl ⟨rfl, rfl, h2, rfl, TRU.out (by rw [hd, h1, h4]; simp [h2])⟩))
    · cases h1 : (fin != -1)
      · exact .inr (.inr (.inr (.inr (.inr (.inr (.inr (.inl ⟨rfl, rfl, LOO.out (by rw [hd, h1]; simp)⟩)))))))
      · by_cases h2 : fin < E
        · exact .inr (.inr (.inr (.inr (.inl ⟨rfl, rfl, h2, TRU.out (by rw [hd, h1]; simp [h2])⟩))))
        · exact .inr (.inr (.inr (.inr (.inr (.inr (.inr (.inr ⟨rfl, rfl, h2, LOO.out (by rw [hd, h1]; simp [h2])⟩)))))))
  clear TRU LOO DEF
  rcases SPLIT with ⟨rfl, h1, h5, rfl⟩ | ⟨rfl, h1, h2, rfl⟩ | ⟨rfl, h1, h2, h4, rfl⟩ | ⟨rfl, h1, h2, h4, h5, rfl⟩ | ⟨rfl, h1, h2, rfl⟩ | ⟨rfl, h1, h5, HL⟩ | ⟨rfl, h1, h2, h4, h5, HL⟩ | ⟨rfl, h1, HL⟩ | ⟨rfl, h1, h2, HL⟩
  iterate 5
    · go_wp2_with fail
      go_ret
      exact ⟨rfl, HB1.out⟩
  all_goals
    go_upto_region 5 with fail
    clear h1
    try clear h2
    try clear h4
    try clear h5
    go_loopw [59] (fun i wr => ∃ k : Nat, k ≤ n ∧ i = .int .i64 k ∧ wr = w1 ∧ Hid (clashL (a + k) (d.drop k) x.data x.has = z)) (fun i _ => n - (intOf i).toNat)
    case atStart => exact ⟨0, Nat.zero_le _, rfl, rfl, by simpa using HL⟩
    case round =>
      obtain ⟨i, hi, rfl, rfl, hcl⟩ := hrel
      by_cases hlt : i < n
      · have hlt' : (i : Int) < (n : Int) := by omega
        obtain ⟨k, EK⟩ : ∃ k, Hid (a + i = k) := ⟨_, rfl⟩
        have hk : wrap64 (AT + (i : Int)) = (k : Int) := (IntWalk.wrap64_in _ ⟨by have := A0.out; omega, by have := HA1.out; have := HN1.out; omega⟩).trans (by rw [← EK.out, ← HAA.out]; omega)
        obtain ⟨b, off, rfl, hc⟩ := HS.out.1.at_ (by rw [HN.out]; omega)
        have cd := hc i (by rw [HN.out]; exact hlt)
        obtain ⟨u, EU⟩ : ∃ u : Int, Hid (((d.getD i 0).toNat : Int) = u) := ⟨_, rfl⟩
        rw [EU.out] at cd
        have HM : Hid (n - (i + 1) < n - i) := by show _ < _; omega
        have hnx : wrap64 ((i : Int) + 1) = ((i + 1 : Nat) : Int) := (IntWalk.wrap64_in _ ⟨by omega, by have := HN1.out; omega⟩).trans (by omega)
        have hstep := clash_drop a d x.data x.has i (by rw [HN.out]; exact hlt)
        rw [hcl.out, EK.out, EU.out, EDL.out] at hstep
        clear hc hcl
        by_cases hkl : k < dl
        · have hkl' : (k : Int) < (dl : Int) := by omega
          obtain ⟨hg, EHG, _, _⟩ := HO.out.has.form (by rw [HLEN.out, EDL.out]; omega)
          obtain ⟨dg, EDG, _, _⟩ := HO.out.data.form (by rw [EDL.out]; omega)
          have oh := HO.out.has
          have od := HO.out.data
          rw [EHG] at oh c9
          rw [EDG] at od c8
          have ch := oh.cell k (by rw [HLEN.out, EDL.out]; exact hkl)
          have cdd := od.cell k (by rw [EDL.out]; exact hkl)
          obtain ⟨v, EV⟩ : ∃ v : Int, Hid (((x.data.getD k 0).toNat : Int) = v) := ⟨_, rfl⟩
          rw [EV.out] at cdd hstep
          have hk0 : (0 : Int) ≤ (k : Int) := Int.natCast_nonneg k
          clear oh od EHG EDG
          cases hb : x.has.getD k false
          · rw [hb] at ch hstep
            have NXT : Hid (clashL (a + (i + 1)) (d.drop (i + 1)) x.data x.has = z) := by show _ = _; rw [hstep]; simp
            clear hstep
            go_upto_region 8 with fail
            simp only [hk]
            go_wp2_with fail
            try simp only [hnx]
            go_roundw
            case rel => exact ⟨i + 1, by omega, by first | rfl | go_num, by trivial, NXT.out⟩
            case measure => simp [intOf]; exact HM.out
          · rw [hb] at ch hstep
            cases hne : (v != u)
            · have NXT : Hid (clashL (a + (i + 1)) (d.drop (i + 1)) x.data x.has = z) := by show _ = _; rw [hstep, hne]; simp
              clear hstep
              go_upto_region 8 with fail
              simp only [hk]
              go_wp2_with fail
              try simp only [hnx]
              go_roundw
              case rel => exact ⟨i + 1, by omega, by first | rfl | go_num, by trivial, NXT.out⟩
              case measure => simp [intOf]; exact HM.out
            · have hz : z = true := by rw [hstep, hne]; simp [hkl]
              subst hz
              clear hstep
              go_upto_region 8 with fail
              simp only [hk]
              go_wp2_with fail
              go_ret
              exact ⟨rfl, HB1.out⟩
        · have hkl' : ¬ (k : Int) < (dl : Int) := by omega
          have NXT : Hid (clashL (a + (i + 1)) (d.drop (i + 1)) x.data x.has = z) := by show _ = _; rw [hstep]; simp [hkl]
          clear hstep
          go_upto_region 8 with fail
          simp only [hk]
          go_wp2_with fail
          try simp only [hnx]
          go_roundw
          case rel => exact ⟨i + 1, by omega, by first | rfl | go_num, by trivial, NXT.out⟩
          case measure => simp [intOf]; exact HM.out
      · have e : i = n := by omega
        subst e
        have hz : z = false := by
          rw [← hcl.out, ← HN.out, List.drop_length]
          rfl
        subst hz
        clear hcl
        go_wp2_with fail
        go_ret
        exact ⟨rfl, HB1.out⟩
end Go.Proofs.Ytpdkoooecnmjjaa
