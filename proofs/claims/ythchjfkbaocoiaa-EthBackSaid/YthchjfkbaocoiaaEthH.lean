/-
  The walk of the reference's Build of frames.
-/
import Derived.Test.YthchjfkbaocoiaaEthG
import Derived.Deep.RegionHeld3
namespace Go.Proofs.Ythchjfkbaocoiaa
open Go.RowKit
set_option linter.unusedVariables false

theorem frameV_to (to_ fr : List UInt8) (k : Int) (D : Option Addr) (n c i : Nat) (h1 : to_.length = 6) (x : UInt8) (hx : to_[i]? = some x) : (frameV to_ fr k D n c)[i]? = some (.int .u8 (x.toNat : Int)) := by
  have hi := (List.getElem?_eq_some_iff.1 hx).1
  unfold frameV
  rw [List.getElem?_toArray, List.append_assoc, List.getElem?_append_left (by simpa using hi), List.getElem?_map, hx]
  rfl
theorem frameV_fr (to_ fr : List UInt8) (k : Int) (D : Option Addr) (n c i : Nat) (h1 : to_.length = 6) (x : UInt8) (hx : fr[i]? = some x) : (frameV to_ fr k D n c)[6 + i]? = some (.int .u8 (x.toNat : Int)) := by
  have hi := (List.getElem?_eq_some_iff.1 hx).1
  unfold frameV
  rw [List.getElem?_toArray, List.append_assoc, List.getElem?_append_right (by simp [h1]), List.getElem?_append_left (by simp [h1]; omega), List.length_map, h1, Nat.add_sub_cancel_left, List.getElem?_map, hx]
  rfl
theorem frameV_12 (to_ fr : List UInt8) (k : Int) (D : Option Addr) (n c : Nat) (h1 : to_.length = 6) (h2 : fr.length = 6) : (frameV to_ fr k D n c)[12]? = some (.int .u16 k) ∧ (frameV to_ fr k D n c)[13]? = some (.slice D n c) := by
  obtain ⟨a0, a1, a2, a3, a4, a5, rfl⟩ := six h1
  obtain ⟨b0, b1, b2, b3, b4, b5, rfl⟩ := six h2
  exact ⟨rfl, rfl⟩
theorem sl_one (w : World) (x : UInt8) : Sl (w.alloc (.cells #[.int .u8 (x.toNat : Int)] 5)) (some ⟨w.heap.size, 0, none⟩) 1 [x] := ⟨bs_lit w [x], by simp, by omega, by simp⟩

/-- append in a region that draws its order, the source nil or not. -/
theorem step_appn {ops : Array Oper} {o : Oper} {a : Act} {K : Act → World → Prop} {Q : Exit → Act → World → Prop} {E : Prop} (w : World) (hgd : o.guard = none) (s x : Operand)
    (ho : o.op = .call { callee := .builtin .append, args := #[s, x], argTypes := #[29, 29] })
    (B : Nat) (A : Option Addr) (c : Nat) (xs : List UInt8) (n : Nat) (hn : xs.length = n) (hs : a.eval s = .slice A n c) (hown : Own w B A c xs)
    (A' : Option Addr) (c' : Nat) (ys : List UInt8) (m : Nat) (hm : ys.length = m) (hx : a.eval x = .slice A' m c') (hsl : Sl w A' c' ys)
    (hl : xs.length + ys.length ≤ 140737488355328) (hB : B ≤ w.heap.size)
    (h : ∀ A2 c2 w', Own w' B A2 c2 (xs ++ ys) → w.grownBy w' (Value.slice A xs.length c).ownBlock → K (a.put o.dst (.slice A2 (n + m) c2)) w') :
    if Region.wanted o (yielded ops a.tmps) = true then Oper.wp Try.prog o a w K Q else E := by
  rcases A' with _ | ad
  · have hc := hsl.2.2.2 rfl
    have hb : ys = [] := List.length_eq_zero_iff.1 (by have := hsl.2.1; omega)
    subst hc hb
    subst hm hn
    obtain ⟨i0, hi, hz0, hz1, hz2⟩ := info_parts info_u8
    have hr := run_append_owned_none (P := Try.prog) w B 29 o.type 5 i0 1 Try.underlying29 hi _ _ _ hown
    have hw : Region.wanted o (yielded ops a.tmps) = true := by simp [Region.wanted, hgd]
    rw [if_pos hw]
    have hx' : a.eval x = .slice none 0 0 := hx
    unfold Oper.wp execOp
    simp only [ho, resolve, invoke, builtin, Sem.run_bind, Sem.run_pure, Result.andThen_ok, List.map_toArray, List.map_cons, List.map_nil, hs, hx', hr]
    exact h A c w (by simpa using hown) (World.grownBy.refl w _)
  · exact step_app w hgd s x ho B A c xs n hn hs hown ad c' ys m hm hx hsl hl hB h

theorem sl_two (w : World) (x y : Int) (x0 : 0 ≤ x) (x1 : x < 256) (y0 : 0 ≤ y) (y1 : y < 256) : Sl (w.alloc (.cells #[.int .u8 x, .int .u8 y] 5)) (some ⟨w.heap.size, 0, none⟩) 2 [u8 x, u8 y] := by
  have := bs_lit w [u8 x, u8 y]
  simp only [List.map_cons, List.map_nil, bval, u8_toNat x x0 x1, u8_toNat y y0 y1] at this
  exact ⟨this, by simp, by omega, by simp⟩
theorem Blk.cell2 {w : World} {g : Nat} {t : TypeId} {cs : Array Value} {i : Nat} {v : Value} (h : Blk w g t cs) (e : cs[i]? = some v) : w.cell? ⟨g, i, none⟩ = some v := (h.cell i).trans e
def slen : Value → Nat | .slice _ n _ => n | _ => 0
/-- A frame's bytes are being laid. -/
structure RE (w : World) (C : Array Value) (A : Option Addr) (c : Nat) (xs : List UInt8) (wr : World) : Prop where
  own : Own wr (w.heap.size + 1) A c xs
  box : Blk wr w.heap.size 42 C
  bel : Below w.heap.size w wr
  sz : w.heap.size + 1 ≤ wr.heap.size
section
variable {w wr w' : World} {C : Array Value} {A A2 : Option Addr} {c c2 : Nat} {xs ys : List UInt8}
theorem RE.alloc (h : RE w C A c xs wr) (o : Obj) : RE w C A c xs (wr.alloc o) := ⟨h.own.keep ((Below.refl _ _).alloc (Nat.le_refl _) _), blk_old h.box o, h.bel.alloc h.bel.size o, by have := h.sz; simp; omega⟩
theorem RE.drew (h : RE w C A c xs wr) : RE w C A c xs wr.drew := ⟨h.own, h.box, below_drew h.bel, h.sz⟩
theorem RE.app (h : RE w C A c xs wr) (ho : Own w' (w.heap.size + 1) A2 c2 (xs ++ ys)) (hg : wr.grownBy w' (Value.slice A xs.length c).ownBlock) : RE w C A2 c2 (xs ++ ys) w' := by
  refine ⟨ho, ?_, h.bel.grown hg h.bel.size (fun q hq => by have := (ownBlock_lt h.own q hq).1; omega), Nat.le_trans h.sz hg.size⟩
  exact (hg.block w.heap.size h.box.lt (fun e => by have := (ownBlock_lt h.own w.heap.size e.symm).1; omega)).trans h.box
end

set_option maxHeartbeats 8000000 in
set_option maxRecDepth 100000 in
theorem rebuild_any (to_ fr : List UInt8) (k : Int) (D : Option Addr) (d : List UInt8) (n c : Nat) (w : World) (h1 : to_.length = 6) (h2 : fr.length = 6) (k0 : 0 ≤ k) (k1 : k < 65536) (hn : d.length = n) (hs : Sl w D c d) :
    Calls Try.prog 21 #[.agg (frameV to_ fr k D n c)] w (EBuilt to_ fr k d w) := by
  have hb : Below w.heap.size w (w.alloc (.cells (frameV to_ fr k D n c) 42)) := (Below.refl _ _).alloc (Nat.le_refl _) _
  have hbx := blk_new w 42 (frameV to_ fr k D n c)
  have HN := Lib.hid hn
  have HS := Lib.hid hs
  have H1 := Lib.hid h1
  have H2 := Lib.hid h2
  have FT := Lib.hid (fun i x hx => frameV_to to_ fr k D n c i h1 x hx)
  have FF := Lib.hid (fun i x hx => frameV_fr to_ fr k D n c i h1 x hx)
  have FK := Lib.hid (frameV_12 to_ fr k D n c h1 h2)
  have HB := Lib.hid hb
  have HX := Lib.hid hbx
  clear hn hs hb hbx h1 h2
  obtain ⟨C, EC⟩ : ∃ C, Hid (frameV to_ fr k D n c = C) := ⟨_, rfl⟩
  rw [EC.out] at FT FF FK HB HX ⊢
  have b13 := HX.out.cell 13
  rw [FK.out.2] at b13
  by_cases hlong : (1500 : Int) < n
  · have FIN : Hid (EBuilt to_ fr k d w (.returned (.tuple #[.slice none 0 0, .int .i64 3])) _) := ⟨none, 0, by rw [ethR, if_neg (by rw [HN.out]; omega), ethE, if_neg (by rw [HN.out]; omega)]; rfl, by rw [ethR, if_neg (by rw [HN.out]; omega)]; exact World.ownsRow_nil _ _ _ _, HB.out⟩
    go_enter Try.func21, Try.ntmps21
    go_wp2_with fail
    go_ret2
    exact FIN.out
  · have hre : RE w C (some ⟨w.heap.size + 1, 0, none⟩) 0 [] ((w.alloc (.cells C 42)).alloc (.cells #[] 5)) := by
      refine ⟨?_, blk_old HX.out _, HB.out.alloc (by simp) _, by simp⟩
      have := own_nil_made (w.alloc (.cells C 42)) (w.heap.size + 1) (by simp)
      simpa using this
    have HE := Lib.hid hre
    clear hre b13
    have b13 := HE.out.box.cell 13
    rw [FK.out.2] at b13
    go_enter Try.func21, Try.ntmps21
    have b13' := HX.out.cell 13
    rw [FK.out.2] at b13'
    go_wp2_with fail
    clear b13 b13'
    go_loopw [4, 5] (fun v i wr => ∃ (j : Nat) (A : Option Addr) (cp : Nat), j ≤ 6 ∧ i = .int .i64 j ∧ v = .slice A j cp ∧ RE w C A cp (to_.take j) wr) (fun _ i _ => 6 - (intOf i).toNat)
    case atStart => exact ⟨0, _, _, by omega, rfl, rfl, HE.out⟩
    case round =>
      obtain ⟨j, A, cp, hj, rfl, rfl, hre⟩ := hrel
      obtain ⟨z, hz⟩ : ∃ z : Int, z = j := ⟨_, rfl⟩
      rw [← hz]
      have hz0 : 0 ≤ z := by omega
      have hz6 : z ≤ 6 := by omega
      clear HE
      have HZ := Lib.hid hz
      have HE := Lib.hid hre
      clear hz hre
      by_cases hlt : z < 6
      · obtain ⟨x, hxm⟩ : ∃ x, to_[j]? = some x := ⟨_, List.getElem?_eq_getElem (by have := HZ.out; have := H1.out; omega)⟩
        have ht : to_.take (j + 1) = to_.take j ++ [x] := by rw [List.take_add_one, hxm]; rfl
        have gm : wr.cell? ⟨w.heap.size, z.toNat, none⟩ = some (.int .u8 (x.toNat : Int)) := by rw [HE.out.box.cell, show z.toNat = j by have := HZ.out; omega, FT.out j x hxm]
        have LJ : Hid ((to_.take j).length = j) := by show _ = _; rw [List.length_take]; have := H1.out; have := HZ.out; omega
        have SL := Lib.hid (sl_one wr x)
        have HE2 := Lib.hid (HE.out.alloc (.cells #[.int .u8 (x.toNat : Int)] 5))
        have HT := Lib.hid ht
        clear hxm ht
        go_wp2_with (at_builtin; refine app_n _ rfl _ _ rfl (w.heap.size + 1) A cp (to_.take j) j LJ.out rfl HE2.out.own (some ⟨wr.heap.size, 0, none⟩) 1 [x] 1 rfl rfl SL.out (by rw [LJ.out]; simp; omega) HE2.out.sz ?_; intro A2 c2 w2 ho hg)
        have R2 := Lib.hid (HE2.out.app ho hg)
        clear ho hg
        go_roundw
        case rel => exact ⟨j + 1, A2, c2, by have := HZ.out; omega, by rw [HZ.out]; go_num, rfl, by rw [HT.out]; exact R2.out⟩
        case measure => simp [intOf]; have := HZ.out; omega
      · obtain rfl : j = 6 := by have := HZ.out; omega
        have ht6 : to_.take 6 = to_ := List.take_of_length_le (by have := H1.out; omega)
        rw [ht6] at HE
        clear ht6
        go_wp2_with fail
        clear FT
        go_loopw [4, 6] (fun v i wr => ∃ (j : Nat) (A : Option Addr) (cp : Nat), j ≤ 6 ∧ i = .int .i64 j ∧ v = .slice A (6 + j : Nat) cp ∧ RE w C A cp (to_ ++ fr.take j) wr) (fun _ i _ => 6 - (intOf i).toNat)
        case atStart => exact ⟨0, _, _, by omega, rfl, rfl, by rw [List.take_zero, List.append_nil]; exact HE.out⟩
        case round =>
          obtain ⟨j, A, cp, hj, rfl, rfl, hre⟩ := hrel
          obtain ⟨z, hz⟩ : ∃ z : Int, z = j := ⟨_, rfl⟩
          rw [← hz]
          have hz0 : 0 ≤ z := by omega
          have hz6 : z ≤ 6 := by omega
          clear HE HZ
          have HZ := Lib.hid hz
          have HE := Lib.hid hre
          clear hz hre
          by_cases hlt : z < 6
          · obtain ⟨x, hxm⟩ : ∃ x, fr[j]? = some x := ⟨_, List.getElem?_eq_getElem (by have := HZ.out; have := H2.out; omega)⟩
            have ht : to_ ++ fr.take (j + 1) = (to_ ++ fr.take j) ++ [x] := by rw [List.take_add_one, hxm, List.append_assoc]; rfl
            have gm : wr.cell? ⟨w.heap.size, 6 + z.toNat, none⟩ = some (.int .u8 (x.toNat : Int)) := by rw [HE.out.box.cell, show z.toNat = j by have := HZ.out; omega, FF.out j x hxm]
            have LJ : Hid ((to_ ++ fr.take j).length = 6 + j) := by show _ = _; rw [List.length_append, List.length_take]; have := H1.out; have := H2.out; have := HZ.out; omega
            have SL := Lib.hid (sl_one wr x)
            have HE2 := Lib.hid (HE.out.alloc (.cells #[.int .u8 (x.toNat : Int)] 5))
            have HT := Lib.hid ht
            have LJ2 : Hid ((to_ ++ fr.take (j + 1)).length = 6 + (j + 1)) := by show _ = _; rw [List.length_append, List.length_take]; have := H1.out; have := H2.out; have := HZ.out; omega
            clear hxm ht
            go_wp2_with (at_builtin; refine app_n _ rfl _ _ rfl (w.heap.size + 1) A cp (to_ ++ fr.take j) (6 + j) LJ.out rfl HE2.out.own (some ⟨wr.heap.size, 0, none⟩) 1 [x] 1 rfl rfl SL.out (by rw [LJ.out]; simp; omega) HE2.out.sz ?_; intro A2 c2 w2 ho hg)
            have R2 := Lib.hid (HE2.out.app ho hg)
            clear ho hg
            go_roundw
            case rel => exact ⟨j + 1, A2, c2, by have := HZ.out; omega, by rw [HZ.out]; go_num, rfl, by rw [HT.out]; exact R2.out⟩
            case measure => simp [intOf]; have := HZ.out; omega
          · obtain rfl : j = 6 := by have := HZ.out; omega
            have ht6 : fr.take 6 = fr := List.take_of_length_le (by have := H2.out; omega)
            rw [ht6] at HE
            clear ht6 FF HX HB
            have c12 := HE.out.box.cell 12
            have c13 := HE.out.box.cell 13
            rw [FK.out.1] at c12
            rw [FK.out.2] at c13
            have q1 : IntKind.u16.wrap (k.tdiv 256) = k / 256 := by rw [Int.tdiv_eq_ediv_of_nonneg k0]; exact IntWalk.u16_in _ (by omega)
            have q2 : IntKind.u8.wrap (k.tmod 256) = k % 256 := by rw [Int.tmod_eq_emod_of_nonneg k0]; exact IntWalk.u8_in _ (by omega)
            have q3 : IntKind.u8.wrap (k / 256) = k / 256 := IntWalk.u8_in _ (by omega)
            go_wp2_with fail
            have L12 : Hid ((to_ ++ fr).length = 12) := by show _ = _; rw [List.length_append, H1.out, H2.out]
            have SL : Hid (Sl (wr.alloc (.cells #[.int .u8 (k / 256), .int .u8 (k % 256)] 5)).drew (some ⟨wr.heap.size, 0, none⟩) 2 [u8 (k / 256), u8 (k % 256)]) := (sl_two wr (k / 256) (k % 256) (by omega) (by omega) (by omega) (by omega)).drawn ⟨1, rfl⟩
            have HE2 : Hid (RE w C A cp (to_ ++ fr) (wr.alloc (.cells #[.int .u8 (k / 256), .int .u8 (k % 256)] 5)).drew) := (HE.out.alloc _).drew
            go_region_held3 (fun w' => w'.cell? ⟨w.heap.size, 12, none⟩ = some (.int .u16 k) ∧ w'.cell? ⟨w.heap.size, 13, none⟩ = some (.slice D n c))
              ((refine ⟨?_, ?_⟩ <;> first
                | (with_reducible assumption)
                | exact c12
                | exact c13
                | exact HE2.out.box.cell2 FK.out.1
                | exact HE2.out.box.cell2 FK.out.2
                | exact R2.out.box.cell2 FK.out.1
                | exact R2.out.box.cell2 FK.out.2
                | exact R3.out.box.cell2 FK.out.1
                | exact R3.out.box.cell2 FK.out.2))
              (first
                | (refine step_appn _ (by rfl) _ _ (by rfl) (w.heap.size + 1) A cp (to_ ++ fr) 12 L12.out (by rfl) HE2.out.own (some ⟨wr.heap.size, 0, none⟩) 2 [u8 (k / 256), u8 (k % 256)] 2 (by rfl) (by rfl) SL.out (by rw [L12.out]; simp) HE2.out.sz ?_
                   intro A2 c2 w2 ho hg
                   have R2 := Lib.hid (HE2.out.app ho hg)
                   clear ho hg)
                | (refine step_appn _ (by rfl) _ _ (by rfl) (w.heap.size + 1) A2 c2 (to_ ++ fr ++ [u8 (k / 256), u8 (k % 256)]) 14 (by rw [List.length_append, L12.out]; rfl) (by rfl) R2.out.own D c d n HN.out (by rfl) (HS.out.below R2.out.bel) (by rw [HN.out, List.length_append, L12.out]; simp; omega) R2.out.sz ?_
                   intro A3 c3 w3 ho hg
                   have R3 := Lib.hid (R2.out.app ho hg)
                   clear ho hg))
            clear HE HE2 SL c12 c13 q1 q2 q3 FK R2
            obtain ⟨Y, EY⟩ : ∃ Y, Hid (to_ ++ fr ++ [u8 (k / 256), u8 (k % 256)] ++ d = Y) := ⟨_, rfl⟩
            rw [EY.out] at R3
            have LY : Hid (Y.length = 14 + n) := by show _ = _; rw [← EY.out, List.length_append, List.length_append, L12.out, HN.out]; rfl
            go_wp2_with fail
            simp only [Nat.reduceAdd, show k.tmod 256 = k % 256 from Int.tmod_eq_emod_of_nonneg k0]
            go_loopw [4] (fun v wr => ∃ (j : Nat) (A : Option Addr) (cp : Nat), j ≤ 46 - n ∧ v = .slice A (14 + n + j : Nat) cp ∧ RE w C A cp (Y ++ List.replicate j 0) wr) (fun v _ => 60 - slen v)
            case atStart => exact ⟨0, _, _, by omega, rfl, by rw [List.replicate_zero, List.append_nil]; exact R3.out⟩
            case round =>
              obtain ⟨j, A, cp, hj, rfl, hre⟩ := hrel
              have HE := Lib.hid hre
              clear hre R3
              obtain ⟨l, EL⟩ : ∃ l : Nat, Hid (14 + n + j = l) := ⟨_, rfl⟩
              rw [EL.out]
              by_cases hlt : (l : Int) < 60
              · have LJ : Hid ((Y ++ List.replicate j 0).length = l) := by show _ = _; rw [List.length_append, List.length_replicate, LY.out, EL.out]
                have HT : Hid (Y ++ List.replicate (j + 1) 0 = (Y ++ List.replicate j 0) ++ [(0 : UInt8)]) := by show _ = _; rw [List.replicate_succ', List.append_assoc]
                have SL : Hid (Sl (wr.alloc (.cells #[.int .u8 0] 5)) (some ⟨wr.heap.size, 0, none⟩) 1 [0]) := sl_one wr 0
                have HE2 := Lib.hid (HE.out.alloc (.cells #[.int .u8 0] 5))
                go_wp2_with (at_builtin; refine app_n _ rfl _ _ rfl (w.heap.size + 1) A cp (Y ++ List.replicate j 0) l LJ.out rfl HE2.out.own (some ⟨wr.heap.size, 0, none⟩) 1 [0] 1 rfl rfl SL.out (by rw [LJ.out]; simp; omega) HE2.out.sz ?_; intro A2 c2 w2 ho hg)
                have R2 := Lib.hid (HE2.out.app ho hg)
                clear ho hg
                go_roundw
                case rel => exact ⟨j + 1, A2, c2, by have := EL.out; omega, by rw [← EL.out]; rfl, by rw [HT.out]; exact R2.out⟩
                case measure => simp [slen]; omega
              · have LF : Hid ((Y ++ List.replicate j 0).length = l) := by show _ = _; rw [List.length_append, List.length_replicate, LY.out, EL.out]
                have EF : Hid (ethR to_ fr k d = Y ++ List.replicate j 0) := by
                  show _ = _
                  rw [ethR, if_pos (by rw [HN.out]; omega), ethB, EY.out, HN.out, show j = 46 - n by have := EL.out; omega]
                have FIN : Hid (EBuilt to_ fr k d w (.returned (.tuple #[.slice A l cp, .int .i64 0])) wr) := by
                  refine ⟨A, cp, ?_, ?_, HE.out.bel⟩
                  · rw [EF.out, LF.out, ethE, if_pos (by rw [HN.out]; omega)]
                  · rw [EF.out]; exact HE.out.own.base (by omega)
                go_wp2_with fail
                go_ret2
                exact FIN.out
end Go.Proofs.Ythchjfkbaocoiaa
