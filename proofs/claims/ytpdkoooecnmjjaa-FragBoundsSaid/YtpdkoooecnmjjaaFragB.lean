/-
  The walk of slices.DeleteFunc on pointers.
-/
import Derived.Test.YtpdkoooecnmjjaaFragA
namespace Go.Proofs.Ytpdkoooecnmjjaa
open Go.RowKit
set_option linter.unusedVariables false

section
variable {w w' : World} {base g n cap : Nat} {e : TypeId} {xs : List Value}
theorem owns_prefix (h : w.ownsRow base e 1 (.slice (some ⟨g, 0, none⟩) n cap) n xs) (m : Nat) (hm : m ≤ n) : w.ownsRow base e 1 (.slice (some ⟨g, 0, none⟩) m cap) m (xs.take m) := by
  have hl : xs.length = n := by simpa using h.1
  refine ⟨by rw [List.length_take]; omega, ?_⟩
  rcases h.2 with ⟨hv, _⟩ | ⟨g', cap', cur, hv, hb, hg, hc, hm', hs, ht⟩
  · cases hv
  · injection hv with h1 h2 h3
    injection h1 with h1
    injection h1 with h1
    subst h1 h3
    refine .inr ⟨g, cap, cur, rfl, hb, hg, by omega, hm', hs, ?_⟩
    rw [← ht, List.take_take, Nat.mul_one, Nat.mul_one, Nat.min_eq_left hm]
theorem grown_trans {a b c : World} {row : Option Nat} (h : a.grownBy b row) (k : b.grownBy c row) : a.grownBy c row :=
  ⟨k.os.trans h.os, k.tape.trans h.tape, k.output.trans h.output, Nat.le_trans h.size k.size, fun i hi hne => (k.block i (Nat.lt_of_lt_of_le hi h.size) hne).trans (h.block i hi hne)⟩
theorem owns_cells : ∀ (vs : List Value) (o : Nat) (w : World) (xs : List Value) (_ : w.ownsRow base e 1 (.slice (some ⟨g, 0, none⟩) n cap) n xs),
    ∃ ys, (w.setCells g o vs).ownsRow base e 1 (.slice (some ⟨g, 0, none⟩) n cap) n ys ∧ ys.take o = xs.take o ∧ w.grownBy (w.setCells g o vs) (some g)
  | [], o, w, xs, h => ⟨xs, h, rfl, ⟨rfl, rfl, rfl, Nat.le_refl _, fun _ _ _ => rfl⟩⟩
  | v :: vs, o, w, xs, h => by
    have h1 := World.ownsRow.stored h o v
    obtain ⟨ys, h2, h3, h4⟩ := owns_cells vs (o + 1) _ _ h1.1
    refine ⟨ys, h2, ?_, grown_trans h1.2 h4⟩
    have : ys.take o = (ys.take (o + 1)).take o := by rw [List.take_take, Nat.min_eq_left (Nat.le_succ o)]
    rw [this, h3, List.take_take, Nat.min_eq_left (Nat.le_succ o), List.take_set_of_le (Nat.le_refl o)]
end
theorem grown_none {w w' : World} (hb : Below w.heap.size w w') (row : Option Nat) : w.grownBy w' row := ⟨hb.os, hb.tape, hb.output, hb.size, fun k hk _ => hb.block k hk⟩

/-- What DeleteFunc leaves. -/
def DeleteR (p : Nat → Bool) (ps : List Nat) (B : Nat) (A : Option Addr) (c : Nat) (w : World) (e : Ending) (w' : World) : Prop :=
  e = .returned (.slice A (ps.filter fun a => !p a).length c) ∧ OwnP w' B A c (ps.filter fun a => !p a) ∧ w.grownBy w' (Value.slice A ps.length c).ownBlock
/-- The row at place k, F being kept. -/
theorem fil_take (p : Nat → Bool) (ps : List Nat) (k a : Nat) (ha : ps[k]? = some a) : (ps.take (k + 1)).filter (fun a => !p a) = if p a then (ps.take k).filter (fun a => !p a) else (ps.take k).filter (fun a => !p a) ++ [a] := by
  rw [List.take_add_one, ha, List.filter_append]
  cases h : p a <;> simp [h]
theorem fil_lt (p : Nat → Bool) (ps : List Nat) (k0 a0 : Nat) (h0 : ps[k0]? = some a0) (hp : p a0 = true) (k : Nat) (hk : k0 < k) : ((ps.take k).filter (fun a => !p a)).length < k := by
  have hm : a0 ∈ ps.take k := List.mem_of_getElem? (i := k0) (by rw [List.getElem?_take, if_pos hk]; exact h0)
  have h1 := List.length_filter_lt_length_iff_exists (p := fun a => !p a) (l := ps.take k) |>.2 ⟨a0, hm, by simp [hp]⟩
  rw [List.length_take] at h1
  omega
theorem fil_none (p : Nat → Bool) (ps : List Nat) (k : Nat) (h : ∀ j, j < k → ∀ b, ps[j]? = some b → p b = false) : (ps.take k).filter (fun a => !p a) = ps.take k := by
  rw [List.filter_eq_self]
  intro a ha
  obtain ⟨j, hj⟩ := List.getElem?_of_mem ha
  have hl := (List.getElem?_eq_some_iff.1 hj).1
  rw [List.length_take] at hl
  rw [List.getElem?_take, if_pos (by omega)] at hj
  simp [h j (by omega) a hj]

set_option maxHeartbeats 4000000 in
set_option maxRecDepth 100000 in
theorem delete_any (gid : FuncId) (cap : Array Value) (p : Nat → Bool) (ps : List Nat) (B : Nat) (A : Option Addr) (c : Nat) (w : World) (eg : ∀ args w, (callFunc gid args).run Try.prog w = .ok (.enter gid args) w)
    (ho : OwnP w B A c ps) (hp : PredF gid cap p ps w (Value.slice A ps.length c).ownBlock) (hl : ps.length ≤ 1000) :
    Calls Try.prog 24 #[.slice A ps.length c, .func (.func gid) #[] cap] w (DeleteR p ps B A c w) := by
  have HO := Lib.hid ho
  have HP := Lib.hid hp
  have HL := Lib.hid hl
  have IX := Lib.hid (index_any gid cap p ps B A c w eg ho hp.none hl)
  obtain ⟨n, EN⟩ : ∃ z, Hid (ps.length = z) := ⟨_, rfl⟩
  rw [EN.out] at IX ⊢
  have hcap := ho.cap
  clear ho hp hl
  go_enter Try.func24, Try.ntmps24
  go_wp2_with fail
  refine IX.out.mono ?_
  rintro e w1 ⟨r, rfl, hb, hr⟩
  rcases hr with ⟨rfl, hall⟩ | ⟨k0, a0, rfl, h0, hp0, hno⟩
  · have HF : Hid (ps.filter (fun a => !p a) = ps) := by show _ = _; rw [List.filter_eq_self]; intro a ha; simp [hall a ha]
    have HB := Lib.hid hb
    clear hall hb
    go_wp2_with fail
    go_ret
    exact ⟨by rw [HF.out, EN.out]; rfl, by rw [HF.out]; exact HO.out.keep HB.out, grown_none HB.out _⟩
  · rcases HO.out.form with ⟨_, h1, _⟩ | ⟨g, rfl, hg1, hg2⟩
    · rw [h1] at h0; cases h0
    have hk0 : k0 < n := by rw [← EN.out]; exact (List.getElem?_eq_some_iff.1 h0).1
    have FL := Lib.hid (fil_lt p ps k0 a0 h0 hp0)
    have FN := Lib.hid (fil_none p ps k0 hno)
    have H0 := Lib.hid h0
    have HP0 := Lib.hid hp0
    have hO1 := HO.out.keep hb
    have hn1000 : n ≤ 1000 := by have := HL.out; rw [EN.out] at this; exact this
    rw [EN.out] at hcap
    have HB := Lib.hid hb
    have HO1 : Hid (w1.ownsRow B 48 1 (.slice (some ⟨g, 0, none⟩) n c) n (ps.map PV)) := by have := hO1; unfold OwnP at this; rw [EN.out] at this; exact this
    have hkb : ((k0 : Int) == -1) = false := by rw [Bool.eq_false_iff]; intro h; have := eq_of_beq h; omega
    clear h0 hp0 hno hb hO1 hg1
    go_wp2_with fail
    go_loopw [5, 6] (fun i j wr => ∃ k : Nat, k0 < k ∧ k ≤ n ∧ j = .int .i64 k ∧ i = .int .i64 ((ps.take k).filter (fun a => !p a)).length ∧ wr.ownsRow B 48 1 (.slice (some ⟨g, 0, none⟩) n c) n ((((ps.take k).filter (fun a => !p a)) ++ ps.drop ((ps.take k).filter (fun a => !p a)).length).map PV) ∧ w.grownBy wr (some g)) (fun _ j _ => n - (intOf j).toNat)
    case atStart =>
      have ef : (ps.take (k0 + 1)).filter (fun a => !p a) = ps.take k0 := by rw [fil_take p ps k0 a0 H0.out, if_pos HP0.out, FN.out]
      have el : (ps.take k0).length = k0 := by rw [List.length_take, EN.out]; omega
      refine ⟨k0 + 1, by omega, by omega, (by first | rfl | go_num), by rw [ef, el], ?_, grown_none HB.out _⟩
      rw [ef, el, List.take_append_drop]
      exact HO1.out
    case round =>
      obtain ⟨k, hk0', hk, rfl, rfl, hrow, hg⟩ := hrel
      have hfl := FL.out k hk0'
      obtain ⟨F, EF⟩ : ∃ z, Hid ((ps.take k).filter (fun a => !p a) = z) := ⟨_, rfl⟩
      rw [EF.out] at hfl hrow ⊢
      obtain ⟨fl, EFL⟩ : ∃ z, Hid (F.length = z) := ⟨_, rfl⟩
      rw [EFL.out] at hfl hrow ⊢
      have HROW := Lib.hid hrow
      have HG := Lib.hid hg
      by_cases hlt : k < n
      · obtain ⟨a, ha⟩ : ∃ a, ps[k]? = some a := ⟨_, List.getElem?_eq_getElem (by rw [EN.out]; exact hlt)⟩
        have ck : wr.cell? ⟨g, k, none⟩ = some (PV a) := by
          rw [World.ownsRow.cellAt hrow k (by omega), List.getElem?_map, List.getElem?_append_right (by rw [EFL.out]; omega), EFL.out, List.getElem?_drop, show fl + (k - fl) = k by omega, ha]
          rfl
        have fk := World.ownsRow.frozenAt hrow fl
        have hgl : g < wr.heap.size := (World.ownsRow.lt hrow g rfl).2
        have hlt' : (k : Int) < (n : Int) := by omega
        have hfl' : (fl : Int) < (n : Int) := by omega
        have HC := Lib.hid (HP.out wr a (List.mem_of_getElem? ha) (by have := hg; simpa [Value.ownBlock] using this))
        have HT := Lib.hid (fil_take p ps k a ha)
        rw [EF.out] at HT
        have HN : Hid (n - (k + 1) < n - k) := by show _ < _; omega
        clear hrow hg ha hg2
        go_wp2_with fail
        refine HC.out.mono ?_
        rintro e w2 ⟨rfl, hb⟩
        have HR2 := Lib.hid (owns_framed HROW.out (Frame.of_below (F := fun _ => False) hb) (fun _ _ h => h))
        have HG2 := Lib.hid (grown_trans HG.out (grown_none hb (some g)))
        have hgl2 : g < w2.heap.size := Nat.lt_of_lt_of_le hgl hb.size
        clear hb HC ck fk hgl
        cases hpa : p a
        · have HT2 : Hid ((ps.take (k + 1)).filter (fun a => !p a) = F ++ [a]) := by show _ = _; rw [HT.out, if_neg (by rw [hpa]; simp)]
          clear hpa HT
          have cf : w2.cell? ⟨g, fl, none⟩ = some (PV (ps.getD fl 0)) := by
            rw [World.ownsRow.cellAt HR2.out fl (by omega), List.getElem?_map, List.getElem?_append_right (by rw [EFL.out]; omega), EFL.out, Nat.sub_self, List.getElem?_drop, Nat.add_zero, List.getElem?_eq_getElem (by rw [EN.out]; omega)]
            simp [List.getD_eq_getElem?_getD, List.getElem?_eq_getElem (show fl < ps.length by rw [EN.out]; omega)]
          have ff := World.ownsRow.frozenAt HR2.out fl
          have st := World.ownsRow.stored HR2.out fl (PV a)
          have HS := Lib.hid st.1
          have HGS := Lib.hid (grown_trans HG2.out st.2)
          clear st
          go_wp2_with fail
          go_roundw
          case rel =>
            refine ⟨k + 1, by omega, by omega, by go_num, by rw [HT2.out, List.length_append, EFL.out]; go_num, ?_, HGS.out⟩
            have := HS.out
            rw [HT2.out, List.length_append, EFL.out, List.length_singleton]
            rw [← List.map_set, List.set_append_right _ _ (by rw [EFL.out]; exact Nat.le_refl _), EFL.out, Nat.sub_self] at this
            have e1 : (ps.drop fl).set 0 a = a :: ps.drop (fl + 1) := by
              rw [List.drop_eq_getElem_cons (by rw [EN.out]; omega)]
              rfl
            rw [e1] at this
            simpa using this
          case measure => simp [intOf]; exact HN.out
        · have HT2 : Hid ((ps.take (k + 1)).filter (fun a => !p a) = F) := by show _ = _; rw [HT.out, if_pos hpa]
          clear hpa HT
          go_wp2_with fail
          go_roundw
          case rel => exact ⟨k + 1, by omega, by omega, by go_num, by rw [HT2.out, EFL.out], by rw [HT2.out, EFL.out]; exact HR2.out, HG2.out⟩
          case measure => simp [intOf]; exact HN.out
      · have ek : k = n := by omega
        subst ek
        have EPS : Hid (ps.filter (fun a => !p a) = F) := by
          have := EF.out
          rw [List.take_of_length_le (by rw [EN.out]; exact Nat.le_refl _)] at this
          exact this
        obtain ⟨i0, hi0, hz0, hz1, hz2⟩ := info_parts' info_ptr
        have hcl := Lib.run_clear_slice (P := Try.prog) wr 43 48 0 (.pointer none) Try.underlying43 (fun w => by simp [zeroValue, typeInfo, hi0, hz0]) rfl rfl g fl (k - fl) (c - fl) (by omega)
          (fun j hj => by rw [World.ownsRow.cellAt hrow (fl + j) (by omega), List.getElem?_map, List.getElem?_append_right (by rw [EFL.out]; omega), EFL.out, List.getElem?_drop, List.getElem?_eq_getElem (by rw [EN.out]; omega)]; rfl)
          (fun j _ => World.ownsRow.frozenAt hrow (fl + j))
        obtain ⟨ys, y1, y2, y3⟩ := owns_cells (List.replicate (k - fl) (.pointer none)) fl wr _ hrow
        have HY := Lib.hid (owns_prefix y1 fl (by omega))
        have HY2 : Hid (ys.take fl = F.map PV) := by
          show _ = _
          rw [y2, List.map_append, List.take_append_of_le_length (by rw [List.length_map, EFL.out]; exact Nat.le_refl _), List.take_of_length_le (by rw [List.length_map, EFL.out]; exact Nat.le_refl _)]
        have HGY := Lib.hid (grown_trans HG.out y3)
        clear y1 y2 y3 hrow hg hi0 hz0 hz1 hz2
        generalize wr.setCells g fl (List.replicate (k - fl) (.pointer none)) = w3 at *
        have hfk : (fl : Int) ≤ (k : Int) := by omega
        have hfc : (fl : Int) ≤ (c : Int) := by omega
        go_wp2_with fail
        go_ret
        refine ⟨by rw [EPS.out, EFL.out]; rfl, ?_, by have := HGY.out; simpa [Value.ownBlock] using this⟩
        unfold OwnP
        rw [EPS.out, EFL.out, ← HY2.out]
        exact HY.out
end Go.Proofs.Ytpdkoooecnmjjaa
