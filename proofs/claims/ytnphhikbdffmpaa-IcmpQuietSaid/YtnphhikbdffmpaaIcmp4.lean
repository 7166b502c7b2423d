/-
  The walk of icmp.Read, on: a message that is right.
-/
import Derived.Test.YtnphhikbdffmpaaIcmp3
import Derived.Deep.RegionHeld3
namespace Go.Proofs.Ytnphhikbdffmpaa
open Go.RowKit

/-- Behind the region: the new message, its data. -/
def RD (w2 wf : World) (gm : Nat) (y0 y1 : UInt8) (n : Nat) (A2 : Option Addr) (c2 : Nat) (d : List UInt8) (r : Int) : Prop :=
  w2.heap.size ≤ gm ∧ Blk wf gm 25 #[.int .i64 (y0.toNat : Int), .int .i64 (y1.toNat : Int), .int .u32 r, .slice A2 n c2] ∧ Own wf w2.heap.size A2 c2 d ∧ Below w2.heap.size w2 wf
theorem rd1 {w2 w4 : World} {y0 y1 : UInt8} {n : Nat} {A2 : Option Addr} {c2 : Nat} {d : List UInt8} (ho : Own w4 w2.heap.size A2 c2 ([] ++ d)) (hb : Below w2.heap.size w2 w4) :
    RD w2 (w4.alloc (.cells #[.int .i64 (y0.toNat : Int), .int .i64 (y1.toNat : Int), .int .u32 0, .slice A2 n c2] 25)) w4.heap.size y0 y1 n A2 c2 d 0 :=
  ⟨hb.size, blk_new _ _ _, ho.keep ((Below.refl _ _).alloc (Nat.le_refl _) _), hb.alloc hb.size _⟩
theorem rd2 {w2 w4 : World} {gm : Nat} {y0 y1 : UInt8} {n : Nat} {A2 : Option Addr} {c2 : Nat} {d : List UInt8} (ho : Own w4 w2.heap.size A2 c2 ([] ++ d)) (hb : Below w2.heap.size w2 w4) (hg : w2.heap.size ≤ gm)
    (hm : Blk w4 gm 25 #[.int .i64 0, .int .i64 0, .int .u32 0, .slice none 0 0]) :
    RD w2 ((((w4.setCell ⟨gm, 0, none⟩ (.int .i64 (y0.toNat : Int))).setCell ⟨gm, 1, none⟩ (.int .i64 (y1.toNat : Int))).setCell ⟨gm, 2, none⟩ (.int .u32 0)).setCell ⟨gm, 3, none⟩ (.slice A2 n c2)) gm y0 y1 n A2 c2 d 0 := by
  have h0 := hm.set 0 (.int .i64 (y0.toNat : Int))
  have h1 := h0.set 1 (.int .i64 (y1.toNat : Int))
  have h2 := h1.set 2 (.int .u32 0)
  have h3 := h2.set 3 (.slice A2 n c2)
  refine ⟨hg, h3, ?_, (((hb.setCell (p := ⟨gm, 0, none⟩) hg _).setCell (p := ⟨gm, 1, none⟩) hg _).setCell (p := ⟨gm, 2, none⟩) hg _).setCell (p := ⟨gm, 3, none⟩) hg _⟩
  exact (((ho.past hm (by decide) 0 _).past h0 (by decide) 1 _).past h1 (by decide) 2 _).past h2 (by decide) 3 _
theorem RD.rest {w2 wf : World} {gm : Nat} {y0 y1 : UInt8} {n : Nat} {A2 : Option Addr} {c2 : Nat} {d : List UInt8} {r : Int} (h : RD w2 wf gm y0 y1 n A2 c2 d r) (r' : Int) : RD w2 (wf.setCell ⟨gm, 2, none⟩ (.int .u32 r')) gm y0 y1 n A2 c2 d r' :=
  ⟨h.1, h.2.1.set 2 _, h.2.2.1.past h.2.1 (by decide) 2 _, h.2.2.2.setCell (p := ⟨gm, 2, none⟩) h.1 _⟩
/-- The rest, of the first j bytes. -/
def restTo (bs : List UInt8) (j : Nat) : Int := match j with
  | 0 => 0
  | 1 => ((bs.getD 4 0).toNat : Int)
  | 2 => (((bs.getD 4 0).toNat * 256 + (bs.getD 5 0).toNat : Nat) : Int)
  | 3 => (((bs.getD 4 0).toNat * 65536 + (bs.getD 5 0).toNat * 256 + (bs.getD 6 0).toNat : Nat) : Int)
  | _ => restOf bs

theorem or_byte (a x : Nat) (ha : a < 16777216) (hx : x < 256) : bits .or .u32 ((a : Int) * 256 % 4294967296) ((x : Int) % 4294967296) = ((a * 256 + x : Nat) : Int) := by
  have e1 : (a : Int) * (256 : Int) % (4294967296 : Int) = ((a <<< 8 : Nat) : Int) := by rw [Nat.shiftLeft_eq]; omega
  have e2 : (x : Int) % 4294967296 = (x : Int) := by omega
  rw [e1, e2, u32_or_nat _ _ (by rw [Nat.shiftLeft_eq]; omega) (by omega), ← Nat.shiftLeft_add_eq_or_of_lt (by omega), Nat.shiftLeft_eq]
theorem rest_step (bs : List UInt8) (j : Nat) (hj : j < 4) : bits .or .u32 (restTo bs j * 256 % 4294967296) (((bs[4 + j]?.getD 0).toNat : Int) % 4294967296) = restTo bs (j + 1) := by
  have h4 := (bs.getD 4 0).toNat_lt
  have h5 := (bs.getD 5 0).toNat_lt
  have h6 := (bs.getD 6 0).toNat_lt
  have h7 := (bs.getD 7 0).toNat_lt
  rcases (by omega : j = 0 ∨ j = 1 ∨ j = 2 ∨ j = 3) with rfl | rfl | rfl | rfl
  all_goals
    simp only [restTo, restOf, List.getD_eq_getElem?_getD, Nat.reduceAdd] at *
  · exact (or_byte 0 _ (by omega) (by omega)).trans (by omega)
  · exact (or_byte _ _ (by omega) (by omega)).trans (by omega)
  · exact (or_byte _ _ (by omega) (by omega)).trans (by omega)
  · exact (or_byte _ _ (by omega) (by omega)).trans (by omega)
theorem RD.rest' {w2 wf : World} {gm : Nat} {y0 y1 : UInt8} {n : Nat} {A2 : Option Addr} {c2 : Nat} {d : List UInt8} {r : Int} (h : RD w2 wf gm y0 y1 n A2 c2 d r) {v r' : Int} (e : v = r') : RD w2 (wf.setCell ⟨gm, 2, none⟩ (.int .u32 v)) gm y0 y1 n A2 c2 d r' := by
  subst e
  exact h.rest v

set_option maxHeartbeats 4000000 in
set_option maxRecDepth 100000 in
theorem read_any (A : Option Addr) (bs : List UInt8) (n c : Nat) (w : World) (hn : bs.length = n) (h : 8 ≤ (n : Int)) (hs : Sl w A c bs) (hl : n ≤ 70000) (hr : rnd (words bs) = 65535) :
    Calls Try.prog 10 #[.slice A n c] w fun e w' => ∃ X x, e = .returned (.tuple #[.agg #[.int .i64 (bs.getD 0 0).toNat, .int .i64 (bs.getD 1 0).toNat, .int .u32 (restOf bs), .slice X (bs.drop 8).length x], .int .i64 0]) ∧ Own w' w.heap.size X x (bs.drop 8) ∧ Below w.heap.size w w' := by
  have hbl : Below w.heap.size w (w.alloc (.cells #[.int .i64 0, .int .i64 0, .int .u32 0, .slice none 0 0] 25)) := (Below.refl _ _).alloc (Nat.le_refl _) _
  have hss := hs.below hbl
  have hk := blk_new w 25 #[.int .i64 0, .int .i64 0, .int .u32 0, .slice none 0 0]
  have HN := Lib.hid hn
  obtain ⟨b, off, rfl, _⟩ := hs.1.at_ (by omega)
  have l1 := hs.2.1
  have l2 := hs.2.2.1
  rw [hn] at l1
  clear hs hn
  go_enter Try.func10, Try.ntmps10
  go_wp2_with fail
  generalize w.alloc (.cells #[.int .i64 0, .int .i64 0, .int .u32 0, .slice none 0 0] 25) = w1 at *
  refine (right_n (some ⟨b, off, none⟩) bs n c _ HN.out hss.1 (by rw [HN.out]; omega)).mono ?_
  rintro e w2 ⟨rfl, hd⟩
  have ef : (rnd (words bs) == 65535) = true := by simpa using hr
  rw [ef]
  have hk2 : Blk w2 w.heap.size 25 #[.int .i64 0, .int .i64 0, .int .u32 0, .slice none 0 0] := hk.keep ((hd.below w1.heap.size).block _ hk.lt)
  have HB := Lib.hid (hbl.trans (hd.below w.heap.size))
  have hs2 := hss.drawn hd
  clear hd hbl hk hss ef hr
  have HK := Lib.hid hk2
  have HS2 := Lib.hid hs2
  obtain ⟨b', off', e', hc⟩ := hs2.1.at_ (by rw [HN.out]; omega)
  injection e' with e'
  injection e' with e1 e2
  subst e1 e2
  have x0 := hc 0 (by rw [HN.out]; omega)
  have x1 := hc 1 (by rw [HN.out]; omega)
  have HC := Lib.hid hc
  clear hk2 hs2 hc
  have lb := World.block_lt_of_cell? w2 _ x0
  obtain ⟨y0, HY0⟩ : ∃ y, Hid (bs.getD 0 0 = y) := ⟨_, rfl⟩
  obtain ⟨y1, HY1⟩ : ∃ y, Hid (bs.getD 1 0 = y) := ⟨_, rfl⟩
  rw [HY0.out] at x0
  rw [HY1.out] at x1
  rw [Nat.add_zero] at x0
  have z0 := y0.toNat_lt
  have z1 := y1.toNat_lt
  obtain ⟨Z, hZ⟩ : ∃ Z, (if c = 8 then some (⟨b, off, none⟩ : Addr) else some (⟨b, off + 8, none⟩ : Addr)) = some Z := by split <;> exact ⟨_, rfl⟩
  have HZ : Hid (Sl w2 (some Z) (c - 8) (bs.drop 8)) := by
    have := HS2.out.cut 8 (by rw [HN.out]; omega)
    show Sl w2 (some Z) (c - 8) (bs.drop 8)
    by_cases hc8 : c = 8
    · rw [if_pos hc8] at this hZ
      rw [← hZ]
      exact this
    · rw [if_neg hc8] at this hZ
      rw [← hZ]
      simpa [add_lit'] using this
  have LD : Hid ((bs.drop 8).length = n - 8) := by show _ = _; rw [List.length_drop, HN.out]
  have i0 : 0 < n := by omega
  have i1 : (1 : Int) < (n : Int) := by omega
  have i2 : (8 : Int) ≤ (c : Int) := by omega
  go_wp2_with fail
  have wr0 : IntKind.i64.wrap (y0.toNat : Int) = (y0.toNat : Int) := IntWalk.i64_in _ (by omega)
  have wr1 : IntKind.i64.wrap (y1.toNat : Int) = (y1.toNat : Int) := IntWalk.i64_in _ (by omega)
  have nb1 : b ≠ w2.heap.size := by omega
  have nb2 : b ≠ w2.heap.size + 1 := by omega
  go_region_held3 (fun w' => w'.cell? ⟨b, off, none⟩ = some (.int .u8 (y0.toNat : Int)) ∧ w'.cell? ⟨b, off + 1, none⟩ = some (.int .u8 (y1.toNat : Int)))
    ((go_split_ands
      refine ⟨?_, ?_⟩ <;> first
        | (with_reducible assumption)
        | (with_reducible refine cell_alloc_old ?_; assumption)
        | (with_reducible refine cell_set_far ?_ nb1; refine cell_set_far ?_ nb1; refine cell_set_far ?_ nb1; refine cell_set_far ?_ nb1; assumption)
        | (with_reducible refine cell_set_far ?_ nb2; refine cell_set_far ?_ nb2; refine cell_set_far ?_ nb2; refine cell_set_far ?_ nb2; assumption)
        | ((with_reducible refine cell_alloc_swap (by with_reducible assumption) ?_); have := hgrow.size; simp at this; simp; omega)
        | (rw [hgrow.cell_far _ (by simp; omega) (by simp [Value.ownBlock]; omega)]; with_reducible assumption)
        | go_keep))
    ((refine step_app _ (by rfl) _ _ (by rfl) w2.heap.size _ 0 [] 0 rfl (by rfl) ?own Z (c - 8) (bs.drop 8) _ LD.out (by rfl) ?src (by rw [LD.out]; simp; omega) (by simp; try omega) ?_
      case own => exact own_nil_blk (by first | (with_reducible refine blk_top ?_; simp) | (with_reducible refine blk_under ?_; simp)) (by simp)
      case src => exact HZ.out.below (by first | (with_reducible exact below_d1) | (with_reducible exact below_d2))
      intro A2 c2 w4 hown1 hgrow
      first | ((with_reducible have hm := blk_w3 hgrow); have m0 := hm.cell 0; have q0 := hm.free 0; have m1 := hm.cell 1; have q1 := hm.free 1; have m2 := hm.cell 2; have q2 := hm.free 2; have m3 := hm.cell 3; have q3 := hm.free 3; simp only [List.getElem?_toArray, List.getElem?_cons_zero, List.getElem?_cons_succ] at m0 m1 m2 m3; replace hm := Lib.hid hm; obtain ⟨gm, hgm⟩ : ∃ gm, Hid (w2.heap.size = gm) := ⟨_, rfl⟩) | ((with_reducible have hm := blk_w2 hgrow); have m0 := hm.cell 0; have q0 := hm.free 0; have m1 := hm.cell 1; have q1 := hm.free 1; have m2 := hm.cell 2; have q2 := hm.free 2; have m3 := hm.cell 3; have q3 := hm.free 3; simp only [List.getElem?_toArray, List.getElem?_cons_zero, List.getElem?_cons_succ] at m0 m1 m2 m3; replace hm := Lib.hid hm; obtain ⟨gm, hgm⟩ : ∃ gm, Hid (w2.heap.size + 1 = gm) := ⟨_, rfl⟩) | skip))
  all_goals
    have hbb : Below w2.heap.size w2 w4 := by
      first
        | exact below_grown below_d1 hgrow (Nat.le_refl _) (by simp)
        | exact below_grown below_d2 hgrow (Nat.le_refl _) (by simp)
    generalize Value.slice _ 0 0 = s24
    first
      | ((with_reducible have hall := rd2 (y0 := y0) (y1 := y1) (n := n - 8) hown1 hbb (by simp) hm.out); generalize World.setCell _ _ (Value.slice A2 (n - 8) c2) = wf at hall ⊢; rw [hgm.out] at hall ⊢)
      | ((with_reducible have hall := rd1 (y0 := y0) (y1 := y1) (n := n - 8) hown1 hbb); generalize w4.alloc _ = wf at hall ⊢; generalize w4.heap.size = gm at hall ⊢)
    try clear hm m0 m1 m2 m3 q0 q1 q2 q3
    clear hown1 hgrow hbb wr0 wr1 x0 x1 i0 i1
    have HW := Lib.hid hall
    clear hall
    have i4 : (4 : Int) ≤ (c : Int) := by omega
    have i5 : ¬ c = 4 := by omega
    go_wp2_with fail
    go_loopw [32] (fun i wr => ∃ j : Nat, j ≤ 4 ∧ i = .int .i64 j ∧ RD w2 wr gm y0 y1 (n - 8) A2 c2 (bs.drop 8) (restTo bs j)) (fun i _ => 4 - (intOf i).toNat)
    case atStart => exact ⟨0, by omega, rfl, HW.out⟩
    case round =>
      obtain ⟨j, hj, rfl, hrd⟩ := hrel
      by_cases hj4 : j < 4
      · have xj := (hrd.2.2.2.cell (p := ⟨b, off + (4 + j), none⟩) lb).trans (HC.out (4 + j) (by rw [HN.out]; omega))
        have rj := hrd.2.1.cell 2
        have fj := hrd.2.1.free 2
        simp only [List.getElem?_toArray, List.getElem?_cons_zero, List.getElem?_cons_succ] at rj
        have HR := Lib.hid hrd
        clear hrd
        rcases (by omega : j = 0 ∨ j = 1 ∨ j = 2 ∨ j = 3) with rfl | rfl | rfl | rfl
        · go_wp2_with fail
          exact ⟨⟨1, by omega, rfl, HR.out.rest' (rest_step bs 0 (by omega))⟩, by simp [intOf]⟩
        · go_wp2_with fail
          exact ⟨⟨2, by omega, rfl, HR.out.rest' (rest_step bs 1 (by omega))⟩, by simp [intOf]⟩
        · go_wp2_with fail
          exact ⟨⟨3, by omega, rfl, HR.out.rest' (rest_step bs 2 (by omega))⟩, by simp [intOf]⟩
        · go_wp2_with fail
          exact ⟨⟨4, by omega, rfl, HR.out.rest' (rest_step bs 3 (by omega))⟩, by simp [intOf]⟩
      · have ej : j = 4 := by omega
        subst ej
        obtain ⟨hg0, hbk, hown, hbel⟩ := hrd
        have hk := HK.out.keep (hbel.block _ HK.out.lt)
        have d0 := hbk.cell 0
        have d1 := hbk.cell 1
        have d2 := hbk.cell 2
        have d3 := hbk.cell 3
        have s0 := hk.cell 0
        have s1 := hk.cell 1
        have s2 := hk.cell 2
        have s3 := hk.cell 3
        have f0 := hk.free 0
        have f1 := hk.free 1
        have f2 := hk.free 2
        have f3 := hk.free 3
        simp only [List.getElem?_toArray, List.getElem?_cons_zero, List.getElem?_cons_succ] at s0 s1 s2 s3 d0 d1 d2 d3
        have er : restTo bs 4 = restOf bs := rfl
        rw [er] at d2
        clear er
        have k0 := hk.set 0 (.int .i64 (y0.toNat : Int))
        have k1 := k0.set 1 (.int .i64 (y1.toNat : Int))
        have k2 := k1.set 2 (.int .u32 (restOf bs))
        have HK3 := Lib.hid (k2.set 3 (.slice A2 (n - 8) c2))
        have HO := Lib.hid (((((hown.past hk (by decide) 0 (.int .i64 (y0.toNat : Int))).past k0 (by decide) 1 (.int .i64 (y1.toNat : Int))).past k1 (by decide) 2 (.int .u32 (restOf bs))).past k2 (by decide) 3 (.slice A2 (n - 8) c2)).base HB.out.size)
        have HF := Lib.hid ((((((HB.out.trans (hbel.mono HB.out.size)).setCell (p := ⟨w.heap.size, 0, none⟩) (Nat.le_refl _) (.int .i64 (y0.toNat : Int))).setCell (p := ⟨w.heap.size, 1, none⟩) (Nat.le_refl _) (.int .i64 (y1.toNat : Int))).setCell (p := ⟨w.heap.size, 2, none⟩) (Nat.le_refl _) (.int .u32 (restOf bs))).setCell (p := ⟨w.heap.size, 3, none⟩) (Nat.le_refl _) (.slice A2 (n - 8) c2)))
        clear hk k0 k1 k2 hbk hown hbel
        go_wp2_with fail
        generalize World.setCell _ _ (Value.slice A2 (n - 8) c2) = w5 at HK3 HO HF ⊢
        have e0 : w5.cell? ⟨w.heap.size, 0, none⟩ = some (.int .i64 (y0.toNat : Int)) := HK3.out.cell 0
        have e1 : w5.cell? ⟨w.heap.size, 1, none⟩ = some (.int .i64 (y1.toNat : Int)) := HK3.out.cell 1
        have e2 : w5.cell? ⟨w.heap.size, 2, none⟩ = some (.int .u32 (restOf bs)) := HK3.out.cell 2
        have e3 : w5.cell? ⟨w.heap.size, 3, none⟩ = some (.slice A2 (n - 8) c2) := HK3.out.cell 3
        exact bodyPost_ret (v := .tuple #[.agg #[.int .i64 (y0.toNat : Int), .int .i64 (y1.toNat : Int), .int .u32 (restOf bs), .slice A2 (n - 8) c2], .int .i64 0]) (by simp [results, Try.results10, go_sem, e0, e1, e2, e3]) rfl ⟨A2, c2, by rw [HY0.out, HY1.out, LD.out], HO.out, HF.out⟩
end Go.Proofs.Ytnphhikbdffmpaa
