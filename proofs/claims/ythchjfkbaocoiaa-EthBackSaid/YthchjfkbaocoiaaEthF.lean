/-
  The walk of eth.Text.
-/
import Derived.Test.YthchjfkbaocoiaaEthE
import Derived.Deep.RegionLaw
import Derived.Deep.AppendLies
import Derived.Lib.Join
namespace Go.Proofs.Ythchjfkbaocoiaa
open Go.RowKit
set_option linter.unusedVariables false

theorem and_15 (x : UInt8) : bits .and .u8 (x.toNat : Int) 15 = ((x.toNat % 16 : Nat) : Int) := by
  have := all_u8 (fun x => decide (bits .and .u8 (x.toNat : Int) 15 = ((x.toNat % 16 : Nat) : Int))) (by decide +kernel) x
  simpa using this
def sval (x : UInt8) : Value := .string ⟨(pair x).toArray⟩
theorem info_str : (Try.prog.info? 9).map (fun i => (i.zero, i.size, i.bytes)) = some (some (.string ⟨#[]⟩), 1, 16) := by kernel_rfl
theorem info_parts0 {t : TypeId} {z : Value} {s b : Nat} (h : (Try.prog.info? t).map (fun i => (i.zero, i.size, i.bytes)) = some (some z, s, b)) : ∃ i, Try.prog.info? t = some i ∧ i.zero = some z ∧ i.size = s ∧ i.bytes = b := by
  cases hi : Try.prog.info? t with
  | none => rw [hi] at h; simp at h
  | some i => rw [hi] at h; simp at h; exact ⟨i, rfl, h.1, h.2.1, h.2.2⟩
def OwnS (w : World) (B : Nat) (A : Option Addr) (c : Nat) (l : List UInt8) : Prop := w.ownsRow B 9 1 (.slice A l.length c) l.length (l.map sval)
theorem mac_idx0 (a b c d e f : UInt8) (W : World) : (Instr.index 23 (.agg #[.int .u8 (a.toNat : Int), .int .u8 (b.toNat : Int), .int .u8 (c.toNat : Int), .int .u8 (d.toNat : Int), .int .u8 (e.toNat : Int), .int .u8 (f.toNat : Int)]) (.int .i64 ((0 : Nat) : Int))).run Try.prog W = .ok (.int .u8 (a.toNat : Int)) W := by kernel_rfl
theorem mac_idx1 (a b c d e f : UInt8) (W : World) : (Instr.index 23 (.agg #[.int .u8 (a.toNat : Int), .int .u8 (b.toNat : Int), .int .u8 (c.toNat : Int), .int .u8 (d.toNat : Int), .int .u8 (e.toNat : Int), .int .u8 (f.toNat : Int)]) (.int .i64 ((1 : Nat) : Int))).run Try.prog W = .ok (.int .u8 (b.toNat : Int)) W := by kernel_rfl
theorem mac_idx2 (a b c d e f : UInt8) (W : World) : (Instr.index 23 (.agg #[.int .u8 (a.toNat : Int), .int .u8 (b.toNat : Int), .int .u8 (c.toNat : Int), .int .u8 (d.toNat : Int), .int .u8 (e.toNat : Int), .int .u8 (f.toNat : Int)]) (.int .i64 ((2 : Nat) : Int))).run Try.prog W = .ok (.int .u8 (c.toNat : Int)) W := by kernel_rfl
theorem mac_idx3 (a b c d e f : UInt8) (W : World) : (Instr.index 23 (.agg #[.int .u8 (a.toNat : Int), .int .u8 (b.toNat : Int), .int .u8 (c.toNat : Int), .int .u8 (d.toNat : Int), .int .u8 (e.toNat : Int), .int .u8 (f.toNat : Int)]) (.int .i64 ((3 : Nat) : Int))).run Try.prog W = .ok (.int .u8 (d.toNat : Int)) W := by kernel_rfl
theorem mac_idx4 (a b c d e f : UInt8) (W : World) : (Instr.index 23 (.agg #[.int .u8 (a.toNat : Int), .int .u8 (b.toNat : Int), .int .u8 (c.toNat : Int), .int .u8 (d.toNat : Int), .int .u8 (e.toNat : Int), .int .u8 (f.toNat : Int)]) (.int .i64 ((4 : Nat) : Int))).run Try.prog W = .ok (.int .u8 (e.toNat : Int)) W := by kernel_rfl
theorem mac_idx5 (a b c d e f : UInt8) (W : World) : (Instr.index 23 (.agg #[.int .u8 (a.toNat : Int), .int .u8 (b.toNat : Int), .int .u8 (c.toNat : Int), .int .u8 (d.toNat : Int), .int .u8 (e.toNat : Int), .int .u8 (f.toNat : Int)]) (.int .i64 ((5 : Nat) : Int))).run Try.prog W = .ok (.int .u8 (f.toNat : Int)) W := by kernel_rfl
theorem mac_idx (a b c d e_ f x : UInt8) (i : Int) (n : Nat) (hi : i = n) (hx : ([a, b, c, d, e_, f] : List UInt8)[n]? = some x) (W : World) : (Instr.index 23 (.agg #[.int .u8 (a.toNat : Int), .int .u8 (b.toNat : Int), .int .u8 (c.toNat : Int), .int .u8 (d.toNat : Int), .int .u8 (e_.toNat : Int), .int .u8 (f.toNat : Int)]) (.int .i64 i)).run Try.prog W = .ok (.int .u8 (x.toNat : Int)) W := by
  subst hi
  have hn := (List.getElem?_eq_some_iff.1 hx).1
  simp at hn
  rcases (by omega : n = 0 ∨ n = 1 ∨ n = 2 ∨ n = 3 ∨ n = 4 ∨ n = 5) with rfl | rfl | rfl | rfl | rfl | rfl
  · have e : a = x := by simpa using hx
    rw [← e]
    exact mac_idx0 a b c d e_ f W
  · have e : b = x := by simpa using hx
    rw [← e]
    exact mac_idx1 a b c d e_ f W
  · have e : c = x := by simpa using hx
    rw [← e]
    exact mac_idx2 a b c d e_ f W
  · have e : d = x := by simpa using hx
    rw [← e]
    exact mac_idx3 a b c d e_ f W
  · have e : e_ = x := by simpa using hx
    rw [← e]
    exact mac_idx4 a b c d e_ f W
  · have e : f = x := by simpa using hx
    rw [← e]
    exact mac_idx5 a b c d e_ f W

theorem textR_flat : ∀ r : List UInt8, textR r = (r.map fun x => 58 :: pair x).flatten
  | [] => rfl
  | x :: r => by simp [textR, textR_flat r]
theorem join_text (m : List UInt8) : Lib.join (m.map pair) [58] = text m := by
  rw [← textN_text]
  match m with
  | [] => rfl
  | x :: r =>
    rw [List.map_cons, Lib.join_cons, Lib.joinTail, List.map_map]
    show pair x ++ _ = pair x ++ textR r
    rw [textR_flat]
    congr 2
def psv (x : UInt8) : ByteArray := ⟨(pair x).toArray⟩
theorem join_n (bk cp n : Nat) (m : List UInt8) (hn : m.length = n) (w : World) (hc : ∀ j, j < m.length → w.cell? ⟨bk, j, none⟩ = some (.string (psv (m.getD j 0)))) (hbk : bk < w.heap.size) (hl : n ≤ 1000) (hcap : n ≤ cp) :
    Calls Try.prog 28 #[.slice (some ⟨bk, 0, none⟩) n cp, .string ⟨#[58]⟩] w fun e w' => e = .returned (.string ⟨(text m).toArray⟩) ∧ Below w.heap.size w w' := by
  subst hn
  have el : (m.map psv).length = m.length := by simp
  have ej : (m.map psv).map (·.data.toList) = m.map pair := by rw [List.map_map]; rfl
  have h := Try.strings_Join bk 0 cp (m.map psv) ⟨#[58]⟩ w (fun j x hx => by
    rw [List.getElem?_map] at hx
    cases hj : m[j]? with
    | none => rw [hj] at hx; cases hx
    | some y =>
      rw [hj] at hx
      have e : psv y = x := by simpa using hx
      rw [← e, Nat.zero_add, hc j (List.getElem?_eq_some_iff.1 hj).1]
      simp [List.getD_eq_getElem?_getD, hj]) hbk (by rw [el]; omega) (by rw [el]; omega) (by
    rw [ej]
    show (Lib.join (m.map pair) [58]).length ≤ _
    rw [join_text, ← textN_text]
    have := textN_length m
    omega)
  rw [el, ej] at h
  have e2 : Lib.join (m.map pair) (⟨#[58]⟩ : ByteArray).data.toList = text m := join_text m
  rw [e2] at h
  exact h

set_option maxHeartbeats 4000000 in
set_option maxRecDepth 100000 in
theorem text_any (m : List UInt8) (w : World) (hm : m.length = 6) :
    Calls Try.prog 10 #[.agg (macv m)] w fun e w' => e = .returned (.string ⟨(text m).toArray⟩) ∧ Below w.heap.size w w' := by
  match m, hm with
  | [a, b, c, d, e, f], _ =>
    have IX := Lib.hid (mac_idx a b c d e f)
    have hb : Below w.heap.size w (w.alloc (.cells #[.int .u8 (a.toNat : Int), .int .u8 (b.toNat : Int), .int .u8 (c.toNat : Int), .int .u8 (d.toNat : Int), .int .u8 (e.toNat : Int), .int .u8 (f.toNat : Int)] 23)) := (Below.refl _ _).alloc (Nat.le_refl _) _
    have HB := Lib.hid hb
    have HM : Hid (([a, b, c, d, e, f] : List UInt8).length = 6) := rfl
    unfold macv
    simp only [List.map_cons, List.map_nil, bval]
    generalize ([a, b, c, d, e, f] : List UInt8) = m at IX HM ⊢
    obtain ⟨i0, hi0, jz0, jz1, jz2⟩ := info_parts0 info_str
    clear hb
    go_enter Try.func10, Try.ntmps10
    go_wp2_with fail
    go_loopw [3, 7] (fun v i wr => ∃ (n : Nat) (A : Option Addr) (cp : Nat), n ≤ 6 ∧ i = .int .i64 n ∧ v = .slice A n cp ∧ OwnS wr w.heap.size A cp (m.take n) ∧ Below w.heap.size w wr) (fun _ i _ => 6 - (intOf i).toNat)
    case atStart => exact ⟨0, none, 0, by omega, rfl, rfl, World.ownsRow_nil _ _ _ _, HB.out⟩
    case round =>
      obtain ⟨n, A, cp, hn, rfl, rfl, ho, hb⟩ := hrel
      obtain ⟨z, hz⟩ : ∃ z : Int, z = n := ⟨_, rfl⟩
      rw [← hz]
      have hz0 : 0 ≤ z := by omega
      have hz6 : z ≤ 6 := by omega
      clear HB
      have HZ := Lib.hid hz
      have HB := Lib.hid hb
      have HO := Lib.hid ho
      clear hz ho hb
      by_cases hlt : z < 6
      · obtain ⟨x, hxm⟩ : ∃ x, m[n]? = some x := ⟨_, List.getElem?_eq_getElem (by have := HZ.out; have := HM.out; omega)⟩
        have ht : m.take (n + 1) = m.take n ++ [x] := by rw [List.take_add_one, hxm]; rfl
        have ix := IX.out x z n HZ.out hxm
        have xl := x.toNat_lt
        obtain ⟨hi, EH⟩ : ∃ y : Int, Hid (((x.toNat / 16 : Nat) : Int) = y) := ⟨_, rfl⟩
        obtain ⟨lo, EL⟩ : ∃ y : Int, Hid (((x.toNat % 16 : Nat) : Int) = y) := ⟨_, rfl⟩
        have i1 := dig_index .u8 hi (x.toNat / 16) EH.out.symm (by omega)
        have i2 := dig_index .u8 lo (x.toNat % 16) EL.out.symm (by omega)
        have e5 : (x.toNat : Int) / 16 = hi := by have := EH.out; omega
        have e6 : bits .and .u8 (x.toNat : Int) 15 = lo := by rw [and_15, EL.out]
        obtain ⟨p, EP⟩ : ∃ y : UInt8, Hid (dig (x.toNat / 16) = y) := ⟨_, rfl⟩
        obtain ⟨q, EQ⟩ : ∃ y : UInt8, Hid (dig (x.toNat % 16) = y) := ⟨_, rfl⟩
        rw [EP.out] at i1
        rw [EQ.out] at i2
        have PQ : Hid (pair x = [p, q]) := by show _ = _; rw [pair, EP.out, EQ.out]
        have HT := Lib.hid ht
        clear hxm ht EP EQ
        have cv := (show (convert 29 9 (.slice (some ⟨wr.heap.size, 0, none⟩) 2 2)).run Try.prog (wr.alloc (.cells #[.int .u8 (p.toNat : Int), .int .u8 (q.toNat : Int)] 5)).drew = .ok (.string ⟨#[p, q]⟩) (wr.alloc (.cells #[.int .u8 (p.toNat : Int), .int .u8 (q.toNat : Int)] 5)).drew from ((bs_lit wr [p, q]).drawn ⟨1, rfl⟩).str 2)
        have HO2 : Hid (w.heap.size ≤ wr.heap.size ∧ (((wr.alloc (.cells #[.int .u8 (p.toNat : Int), .int .u8 (q.toNat : Int)] 5)).alloc (.cells #[.string ⟨#[p, q]⟩] 9)).drew).ownsRow w.heap.size 9 1 (.slice A n cp) n ((m.take n).map sval)) := by
          refine ⟨HB.out.size, ?_⟩
          have h := ((HO.out).alloc (.cells #[.int .u8 (p.toNat : Int), .int .u8 (q.toNat : Int)] 5)).alloc (.cells #[.string ⟨#[p, q]⟩] 9)
          rw [List.length_take, show min n m.length = n by have := HM.out; have := HZ.out; omega] at h
          exact h.drew
        have LN : Hid (n + 1 ≤ maxLen ∧ (n + 1) * 16 ≤ 140737488355328) := by show _ ∧ _; simp only [maxLen]; omega
        have NB : Hid (((wr.alloc (.cells #[.int .u8 (p.toNat : Int), .int .u8 (q.toNat : Int)] 5)).alloc (.cells #[.string ⟨#[p, q]⟩] 9)).drew.heap[wr.heap.size + 1]? = some (.cells #[.string ⟨#[p, q]⟩] 9 (0, 0))) := by
          have := heap_alloc_new (wr.alloc (.cells #[.int .u8 (p.toNat : Int), .int .u8 (q.toNat : Int)] 5)) (.cells #[.string ⟨#[p, q]⟩] 9)
          have h : ((wr.alloc (.cells #[.int .u8 (p.toNat : Int), .int .u8 (q.toNat : Int)] 5)).alloc (.cells #[.string ⟨#[p, q]⟩] 9)).heap[wr.heap.size + 1]? = some (.cells #[.string ⟨#[p, q]⟩] 9 (0, 0)) := by simpa using this
          exact h
        have BS : Hid (w.heap.size ≤ ((wr.alloc (.cells #[.int .u8 (p.toNat : Int), .int .u8 (q.toNat : Int)] 5)).alloc (.cells #[.string ⟨#[p, q]⟩] 9)).drew.heap.size) := by show _ ≤ _; have := HO2.out.1; simp; omega
        have SZ2 : Hid (((wr.alloc (.cells #[.int .u8 (p.toNat : Int), .int .u8 (q.toNat : Int)] 5)).alloc (.cells #[.string ⟨#[p, q]⟩] 9)).drew.heap.size = wr.heap.size + 2) := by show _ = _; simp
        go_wp2_with fail
        go_region_law ((go_loud (refine step_append_lies _ (by rfl) _ _ _ (by rfl) w.heap.size 9 i0 (.string ⟨#[]⟩) 1 16 Try.underlying54 hi0 jz0 jz1 jz2 rfl (by omega) (.slice A n cp) n ((m.take n).map sval) (by rfl) HO2.out.2 ⟨wr.heap.size + 1, 0, none⟩ 1 1 [.string ⟨#[p, q]⟩] (by rfl) (by rfl) (World.news_of_block (cs := #[.string ⟨#[p, q]⟩]) (t := 9) (fr := (0, 0)) NB.out) (by simp [Value.oneCell']) (by omega) LN.out.1 LN.out.2 BS.out (wr.heap.size + 2) SZ2.out ?_); intro gg cap w2 hown1 hgrow hat hlt2))
        all_goals
          go_wp2_with fail
          go_roundw
          case rel =>
            refine ⟨n + 1, some ⟨gg, 0, none⟩, cap, by have := HZ.out; omega, by rw [HZ.out]; go_num, rfl, ?_, ?_⟩
            · show OwnS _ _ _ _ _
              have e : (m.take (n + 1)).map sval = (m.take n).map sval ++ [.string ⟨#[p, q]⟩] := by rw [HT.out, List.map_append]; simp [sval, PQ.out]
              have l : (m.take (n + 1)).length = n + 1 := by rw [List.length_take]; have := HM.out; have := HZ.out; omega
              unfold OwnS
              rw [e, l]
              exact hown1
            · exact (below_drew ((HB.out.alloc HB.out.size _).alloc (by have := HB.out.size; simp; omega) _)).grown hgrow BS.out (fun k hk => (World.ownsRow.lt HO2.out.2 k hk).1)
          case measure => simp [intOf]; have := HZ.out; omega
      · have n6 : n = 6 := by have := HZ.out; omega
        subst n6
        have hm6 : m.take 6 = m := List.take_of_length_le (by have := HM.out; omega)
        rw [hm6] at HO
        obtain ⟨g, rfl, hg0, hgl⟩ : ∃ g, A = some ⟨g, 0, none⟩ ∧ w.heap.size ≤ g ∧ g < wr.heap.size := by
          rcases HO.out.2 with ⟨_, h0⟩ | ⟨g, cap, cur, hv, hb, hh, _⟩
          · rw [HM.out] at h0; cases h0
          · injection hv with h1; exact ⟨g, h1, hb, (Array.getElem?_eq_some_iff.1 hh).1⟩
        have SEP : Hid (Bs (wr.alloc (.cells #[.int .u8 58] 5)) (some ⟨wr.heap.size, 0, none⟩) [58]) := bs_lit wr [58]
        have cv : (convert 29 9 (.slice (some ⟨wr.heap.size, 0, none⟩) 1 1)).run Try.prog (wr.alloc (.cells #[.int .u8 58] 5)) = .ok (.string ⟨#[58]⟩) (wr.alloc (.cells #[.int .u8 58] 5)) := SEP.out.str 1
        have CP : Hid (6 ≤ cp) := by
          have h := HO.out.2
          show 6 ≤ cp
          rcases h with ⟨_, h0⟩ | ⟨g', cap, cur, hv, hb, hh, hc, _⟩
          · rw [HM.out] at h0; cases h0
          · injection hv with _ _ h3; have := HM.out; omega
        have CC : Hid (∀ j, j < m.length → (wr.alloc (.cells #[.int .u8 58] 5)).cell? ⟨g, j, none⟩ = some (.string (psv (m.getD j 0)))) := by
          intro j hj
          have h := World.ownsRow.cellAt (HO.out.alloc (.cells #[.int .u8 58] 5)) j (by omega)
          rw [h]
          simp [sval, psv, List.getD_eq_getElem?_getD, List.getElem?_eq_getElem hj]
        go_wp2_with fail
        refine (join_n g cp 6 m HM.out _ CC.out (by simp; omega) (by omega) CP.out).mono ?_
        rintro e w2 ⟨rfl, hb2⟩
        go_wp2_with fail
        go_ret
        exact ⟨rfl, (HB.out.alloc HB.out.size _).trans (hb2.mono (by have := HB.out.size; simp; omega))⟩
end Go.Proofs.Ythchjfkbaocoiaa
