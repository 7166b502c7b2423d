/-
  The reference's Read: the good case.
-/
import Derived.Test.YthchjfkbaocoiaaEthL
import Derived.RegionTactic
import Derived.BigRegion
namespace Go.Proofs.Ythchjfkbaocoiaa
open Go.RowKit
set_option linter.unusedVariables false

/-- The cells of a frame of which j bytes of each address are there. -/
def rfv (y0 y1 y2 y3 y4 y5 y6 y7 y8 y9 y10 y11 : UInt8) (k : Int) (A2 : Option Addr) (n c2 : Nat) (j : Nat) : Array Value := match j with
  | 0 => #[.int .u8 0, .int .u8 0, .int .u8 0, .int .u8 0, .int .u8 0, .int .u8 0, .int .u8 0, .int .u8 0, .int .u8 0, .int .u8 0, .int .u8 0, .int .u8 0, .int .u16 k, .slice A2 n c2]
  | 1 => #[.int .u8 (y0.toNat : Int), .int .u8 0, .int .u8 0, .int .u8 0, .int .u8 0, .int .u8 0, .int .u8 (y6.toNat : Int), .int .u8 0, .int .u8 0, .int .u8 0, .int .u8 0, .int .u8 0, .int .u16 k, .slice A2 n c2]
  | 2 => #[.int .u8 (y0.toNat : Int), .int .u8 (y1.toNat : Int), .int .u8 0, .int .u8 0, .int .u8 0, .int .u8 0, .int .u8 (y6.toNat : Int), .int .u8 (y7.toNat : Int), .int .u8 0, .int .u8 0, .int .u8 0, .int .u8 0, .int .u16 k, .slice A2 n c2]
  | 3 => #[.int .u8 (y0.toNat : Int), .int .u8 (y1.toNat : Int), .int .u8 (y2.toNat : Int), .int .u8 0, .int .u8 0, .int .u8 0, .int .u8 (y6.toNat : Int), .int .u8 (y7.toNat : Int), .int .u8 (y8.toNat : Int), .int .u8 0, .int .u8 0, .int .u8 0, .int .u16 k, .slice A2 n c2]
  | 4 => #[.int .u8 (y0.toNat : Int), .int .u8 (y1.toNat : Int), .int .u8 (y2.toNat : Int), .int .u8 (y3.toNat : Int), .int .u8 0, .int .u8 0, .int .u8 (y6.toNat : Int), .int .u8 (y7.toNat : Int), .int .u8 (y8.toNat : Int), .int .u8 (y9.toNat : Int), .int .u8 0, .int .u8 0, .int .u16 k, .slice A2 n c2]
  | 5 => #[.int .u8 (y0.toNat : Int), .int .u8 (y1.toNat : Int), .int .u8 (y2.toNat : Int), .int .u8 (y3.toNat : Int), .int .u8 (y4.toNat : Int), .int .u8 0, .int .u8 (y6.toNat : Int), .int .u8 (y7.toNat : Int), .int .u8 (y8.toNat : Int), .int .u8 (y9.toNat : Int), .int .u8 (y10.toNat : Int), .int .u8 0, .int .u16 k, .slice A2 n c2]
  | _ => #[.int .u8 (y0.toNat : Int), .int .u8 (y1.toNat : Int), .int .u8 (y2.toNat : Int), .int .u8 (y3.toNat : Int), .int .u8 (y4.toNat : Int), .int .u8 (y5.toNat : Int), .int .u8 (y6.toNat : Int), .int .u8 (y7.toNat : Int), .int .u8 (y8.toNat : Int), .int .u8 (y9.toNat : Int), .int .u8 (y10.toNat : Int), .int .u8 (y11.toNat : Int), .int .u16 k, .slice A2 n c2]
/-- Behind the region: the new frame, its data. -/
def RGX (w1 : World) (k : Int) (n : Nat) (ds : List UInt8) (s4 : Value) (wx : World) : Prop :=
  ∃ gm A2 c2, s4 = .pointer (some ⟨gm, 0, none⟩) ∧ w1.heap.size ≤ gm ∧ Blk wx gm 42 (rfv 0 0 0 0 0 0 0 0 0 0 0 0 k A2 n c2 0) ∧ Own wx w1.heap.size A2 c2 ds ∧ Below w1.heap.size w1 wx
theorem rgx1 {w1 w4 : World} {k : Int} {n : Nat} {A2 : Option Addr} {c2 : Nat} {ds : List UInt8} (ho : Own w4 w1.heap.size A2 c2 ([] ++ ds)) (hb : Below w1.heap.size w1 w4) :
    RGX w1 k n ds (.pointer (some ⟨w4.heap.size, 0, none⟩)) (w4.alloc (.cells #[.int .u8 0, .int .u8 0, .int .u8 0, .int .u8 0, .int .u8 0, .int .u8 0, .int .u8 0, .int .u8 0, .int .u8 0, .int .u8 0, .int .u8 0, .int .u8 0, .int .u16 k, .slice A2 n c2] 42)) :=
  ⟨w4.heap.size, A2, c2, rfl, hb.size, blk_new _ _ _, ho.keep ((Below.refl _ _).alloc (Nat.le_refl _) _), hb.alloc hb.size _⟩
theorem rgx2 {w1 w4 : World} {gm : Nat} {k : Int} {n : Nat} {A2 : Option Addr} {c2 : Nat} {ds : List UInt8} (ho : Own w4 w1.heap.size A2 c2 ([] ++ ds)) (hb : Below w1.heap.size w1 w4) (hg : w1.heap.size ≤ gm)
    (hm : Blk w4 gm 42 #[.int .u8 0, .int .u8 0, .int .u8 0, .int .u8 0, .int .u8 0, .int .u8 0, .int .u8 0, .int .u8 0, .int .u8 0, .int .u8 0, .int .u8 0, .int .u8 0, .int .u16 0, .slice none 0 0]) : RGX w1 k n ds (.pointer (some ⟨gm, 0, none⟩)) (((((((((((((((w4).setCell ⟨gm, 0, none⟩ (.int .u8 0)).setCell ⟨gm, 1, none⟩ (.int .u8 0)).setCell ⟨gm, 2, none⟩ (.int .u8 0)).setCell ⟨gm, 3, none⟩ (.int .u8 0)).setCell ⟨gm, 4, none⟩ (.int .u8 0)).setCell ⟨gm, 5, none⟩ (.int .u8 0)).setCell ⟨gm, 6, none⟩ (.int .u8 0)).setCell ⟨gm, 7, none⟩ (.int .u8 0)).setCell ⟨gm, 8, none⟩ (.int .u8 0)).setCell ⟨gm, 9, none⟩ (.int .u8 0)).setCell ⟨gm, 10, none⟩ (.int .u8 0)).setCell ⟨gm, 11, none⟩ (.int .u8 0)).setCell ⟨gm, 12, none⟩ (.int .u16 k)).setCell ⟨gm, 13, none⟩ (.slice A2 n c2)) := by
  have st := hm.store14 (.int .u8 0) (.int .u8 0) (.int .u8 0) (.int .u8 0) (.int .u8 0) (.int .u8 0) (.int .u8 0) (.int .u8 0) (.int .u8 0) (.int .u8 0) (.int .u8 0) (.int .u8 0) (.int .u16 k) (.slice A2 n c2)
  exact ⟨gm, A2, c2, rfl, hg, st.1, ho.grown hm (by decide) st.2, below_grown hb st.2 (Nat.le_refl _) hg⟩
/-- In the loop. -/
def RGL (w1 : World) (gm : Nat) (y0 y1 y2 y3 y4 y5 y6 y7 y8 y9 y10 y11 : UInt8) (k : Int) (A2 : Option Addr) (n c2 : Nat) (ds : List UInt8) (j : Nat) (wx : World) : Prop :=
  Blk wx gm 42 (rfv y0 y1 y2 y3 y4 y5 y6 y7 y8 y9 y10 y11 k A2 n c2 j) ∧ Own wx w1.heap.size A2 c2 ds ∧ Below w1.heap.size w1 wx
theorem RGL.step {w1 wx : World} {gm : Nat} {y0 y1 y2 y3 y4 y5 y6 y7 y8 y9 y10 y11 : UInt8} {k : Int} {A2 : Option Addr} {n c2 : Nat} {ds : List UInt8} {j : Nat} (h : RGL w1 gm y0 y1 y2 y3 y4 y5 y6 y7 y8 y9 y10 y11 k A2 n c2 ds j wx) (hg : w1.heap.size ≤ gm) (p q : Nat) (u v : Value)
    (e : ((rfv y0 y1 y2 y3 y4 y5 y6 y7 y8 y9 y10 y11 k A2 n c2 j).setIfInBounds p u).setIfInBounds q v = rfv y0 y1 y2 y3 y4 y5 y6 y7 y8 y9 y10 y11 k A2 n c2 (j + 1)) : RGL w1 gm y0 y1 y2 y3 y4 y5 y6 y7 y8 y9 y10 y11 k A2 n c2 ds (j + 1) ((wx.setCell ⟨gm, p, none⟩ u).setCell ⟨gm, q, none⟩ v) := by
  obtain ⟨h1, h2, h3⟩ := h
  have b1 := h1.set p u
  have b2 := b1.set q v
  rw [e] at b2
  exact ⟨b2, (h2.past h1 (by decide) p u).past b1 (by decide) q v, (h3.setCell (p := ⟨gm, p, none⟩) hg _).setCell (p := ⟨gm, q, none⟩) hg _⟩
theorem RGL.drew {w1 wx : World} {gm : Nat} {y0 y1 y2 y3 y4 y5 y6 y7 y8 y9 y10 y11 : UInt8} {k : Int} {A2 : Option Addr} {n c2 : Nat} {ds : List UInt8} {j : Nat} (h : RGL w1 gm y0 y1 y2 y3 y4 y5 y6 y7 y8 y9 y10 y11 k A2 n c2 ds j wx) : RGL w1 gm y0 y1 y2 y3 y4 y5 y6 y7 y8 y9 y10 y11 k A2 n c2 ds j wx.drew :=
  ⟨h.1, h.2.1.drawn ⟨1, rfl⟩, below_drewN h.2.2 1⟩

theorem u16_pair (a b : UInt8) : IntKind.u16.wrap (IntKind.u16.wrap (256 * IntKind.u16.wrap (a.toNat : Int)) + IntKind.u16.wrap (b.toNat : Int)) = 256 * (a.toNat : Int) + (b.toNat : Int) := by
  have ha := a.toNat_lt
  have hb := b.toNat_lt
  simp [IntKind.wrap, IntKind.bits, IntKind.signed]; omega

set_option maxHeartbeats 4000000 in
set_option maxRecDepth 100000 in
theorem rread_good0 (y0 y1 y2 y3 y4 y5 y6 y7 y8 y9 y10 y11 y12 y13 : UInt8) (b off n c : Nat) (ds : List UInt8) (w : World) (h0 : 60 ≤ n) (h1 : n ≤ 1514) (hc : n ≤ c) (hl : ds.length = n - 14) (hs : Sl w (some ⟨b, off + 14, none⟩) (c - 14) ds) (e0 : w.cell? ⟨b, off, none⟩ = some (.int .u8 (y0.toNat : Int))) (e1 : w.cell? ⟨b, off + 1, none⟩ = some (.int .u8 (y1.toNat : Int))) (e2 : w.cell? ⟨b, off + 2, none⟩ = some (.int .u8 (y2.toNat : Int))) (e3 : w.cell? ⟨b, off + 3, none⟩ = some (.int .u8 (y3.toNat : Int))) (e4 : w.cell? ⟨b, off + 4, none⟩ = some (.int .u8 (y4.toNat : Int))) (e5 : w.cell? ⟨b, off + 5, none⟩ = some (.int .u8 (y5.toNat : Int))) (e6 : w.cell? ⟨b, off + 6, none⟩ = some (.int .u8 (y6.toNat : Int))) (e7 : w.cell? ⟨b, off + 7, none⟩ = some (.int .u8 (y7.toNat : Int))) (e8 : w.cell? ⟨b, off + 8, none⟩ = some (.int .u8 (y8.toNat : Int))) (e9 : w.cell? ⟨b, off + 9, none⟩ = some (.int .u8 (y9.toNat : Int))) (e10 : w.cell? ⟨b, off + 10, none⟩ = some (.int .u8 (y10.toNat : Int))) (e11 : w.cell? ⟨b, off + 11, none⟩ = some (.int .u8 (y11.toNat : Int))) (e12 : w.cell? ⟨b, off + 12, none⟩ = some (.int .u8 (y12.toNat : Int))) (e13 : w.cell? ⟨b, off + 13, none⟩ = some (.int .u8 (y13.toNat : Int))) :
    Calls Try.prog 25 #[.slice (some ⟨b, off, none⟩) n c] w (fun e w' => ∃ X x, e = .returned (.tuple #[.agg #[.int .u8 (y0.toNat : Int), .int .u8 (y1.toNat : Int), .int .u8 (y2.toNat : Int), .int .u8 (y3.toNat : Int), .int .u8 (y4.toNat : Int), .int .u8 (y5.toNat : Int), .int .u8 (y6.toNat : Int), .int .u8 (y7.toNat : Int), .int .u8 (y8.toNat : Int), .int .u8 (y9.toNat : Int), .int .u8 (y10.toNat : Int), .int .u8 (y11.toNat : Int), .int .u16 (256 * (y12.toNat : Int) + (y13.toNat : Int)), .slice X (n - 14) x], .int .i64 0]) ∧ Own w' w.heap.size X x ds ∧ Below w.heap.size w w') := by
  have hb : Below w.heap.size w (w.alloc (.cells #[.int .u8 0, .int .u8 0, .int .u8 0, .int .u8 0, .int .u8 0, .int .u8 0, .int .u8 0, .int .u8 0, .int .u8 0, .int .u8 0, .int .u8 0, .int .u8 0, .int .u16 0, .slice none 0 0] 42)) := (Below.refl _ _).alloc (Nat.le_refl _) _
  have hx := blk_new w 42 #[.int .u8 0, .int .u8 0, .int .u8 0, .int .u8 0, .int .u8 0, .int .u8 0, .int .u8 0, .int .u8 0, .int .u8 0, .int .u8 0, .int .u8 0, .int .u8 0, .int .u16 0, .slice none 0 0]
  have nb0 : b ≠ w.heap.size := by have := World.block_lt_of_cell? w _ e0; simp at this; omega
  have g0 := keep_below hb _ _ e0
  have g1 := keep_below hb _ _ e1
  have g2 := keep_below hb _ _ e2
  have g3 := keep_below hb _ _ e3
  have g4 := keep_below hb _ _ e4
  have g5 := keep_below hb _ _ e5
  have g6 := keep_below hb _ _ e6
  have g7 := keep_below hb _ _ e7
  have g8 := keep_below hb _ _ e8
  have g9 := keep_below hb _ _ e9
  have g10 := keep_below hb _ _ e10
  have g11 := keep_below hb _ _ e11
  have g12 := keep_below hb _ _ e12
  have g13 := keep_below hb _ _ e13
  have HB := Lib.hid hb
  have HX := Lib.hid hx
  have HS := Lib.hid (hs.below hb)
  have HL := Lib.hid hl
  clear hb hx hs hl e0 e1 e2 e3 e4 e5 e6 e7 e8 e9 e10 e11 e12 e13
  have j0 : ¬ (n : Int) < 60 := by omega
  have j1 : ¬ (1514 : Int) < n := by omega
  have j4 : (14 : Int) ≤ (c : Int) := by omega
  have j5 : (12 : Int) < (n : Int) := by omega
  have j6 : (13 : Int) < (n : Int) := by omega
  have j7 : (14 : Int) ≤ (n : Int) := by omega
  have j9 : ¬ c = 14 := by omega
  have z12 := y12.toNat_lt
  have z13 := y13.toNat_lt
  go_enter Try.func25, Try.ntmps25
  go_upto_region 1 with fail
  generalize w.alloc (.cells #[.int .u8 0, .int .u8 0, .int .u8 0, .int .u8 0, .int .u8 0, .int .u8 0, .int .u8 0, .int .u8 0, .int .u8 0, .int .u8 0, .int .u8 0, .int .u8 0, .int .u16 0, .slice none 0 0] 42) = w1 at *
  have lb := World.block_lt_of_cell? w1 _ g0
  simp at lb
  go_upto_region 3 with fail
  go_cut [4] (fun s4 wx => RGX w1 (256 * (y12.toNat : Int) + (y13.toNat : Int)) (n - 14) ds s4 wx)
  case first =>
    have nb1 : b ≠ w1.heap.size := by omega
    have nb2 : b ≠ w1.heap.size + 1 := by omega
    go_region_held3 (fun w' => w'.cell? ⟨b, off + 12, none⟩ = some (.int .u8 (y12.toNat : Int)) ∧ w'.cell? ⟨b, off + 13, none⟩ = some (.int .u8 (y13.toNat : Int)))
      ((go_split_ands
        refine ⟨?_, ?_⟩ <;> first
        | (with_reducible assumption)
        | (with_reducible refine cell_drew0 ?_; with_reducible assumption)
        | (with_reducible refine cell_alloc_old ?_; assumption)
        | ((iterate 14 (with_reducible refine cell_set_far ?_ nb1)); assumption)
        | ((iterate 14 (with_reducible refine cell_set_far ?_ nb2)); assumption)
        | ((with_reducible refine cell_alloc_swap (by with_reducible assumption) ?_); have := hgrow.size; simp at this; simp; omega)
        | (rw [hgrow.cell_far _ (by simp; omega) (by simp [Value.ownBlock]; omega)]; with_reducible assumption)
        | go_keep))
      ((refine step_appn _ (by rfl) _ _ (by rfl) w1.heap.size _ 0 [] 0 rfl (by rfl) ?own _ (c - 14) ds _ HL.out (by rfl) ?src (by rw [HL.out]; simp; omega) (by simp; try omega) ?_
        case own => exact own_nil_blk (by first | (with_reducible refine blk_top ?_; simp) | (with_reducible refine blk_under ?_; simp)) (by simp)
        case src => exact HS.out.below (by first | (with_reducible exact below_d1) | (with_reducible exact below_d2))
        intro A2 c2 w4 hown1 hgrow
        first | ((with_reducible have hm := blk_w3 hgrow); obtain ⟨m0, m1, m2, m3, m4, m5, m6, m7, m8, m9, m10, m11, m12, m13⟩ := hm.cells14; obtain ⟨f0, f1, f2, f3, f4, f5, f6, f7, f8, f9, f10, f11, f12, f13⟩ := hm.frees14; replace hm := Lib.hid hm; obtain ⟨gm, hgm⟩ : ∃ gm, Hid (w1.heap.size = gm) := ⟨_, rfl⟩) | ((with_reducible have hm := blk_w2 hgrow); obtain ⟨m0, m1, m2, m3, m4, m5, m6, m7, m8, m9, m10, m11, m12, m13⟩ := hm.cells14; obtain ⟨f0, f1, f2, f3, f4, f5, f6, f7, f8, f9, f10, f11, f12, f13⟩ := hm.frees14; replace hm := Lib.hid hm; obtain ⟨gm, hgm⟩ : ∃ gm, Hid (w1.heap.size + 1 = gm) := ⟨_, rfl⟩) | skip))
    all_goals
      have hbb : Below w1.heap.size w1 w4 := by
        first
          | exact below_grown below_d1 hgrow (Nat.le_refl _) (by simp)
          | exact below_grown below_d2 hgrow (Nat.le_refl _) (by simp)
      have U := Lib.hid (u16_pair y12 y13)
      rw [U.out]
      first
        | ((with_reducible have hall := rgx2 (k := 256 * (y12.toNat : Int) + (y13.toNat : Int)) (n := n - 14) (c2 := c2) hown1 hbb (by omega) hm.out); generalize World.setCell _ _ (Value.slice A2 (n - 14) c2) = wf at hall ⊢)
        | ((with_reducible have hall := rgx1 (k := 256 * (y12.toNat : Int) + (y13.toNat : Int)) (n := n - 14) (c2 := c2) hown1 hbb); generalize w4.alloc _ = wf at hall ⊢)
      try clear hm m0 m1 m2 m3 m4 m5 m6 m7 m8 m9 m10 m11 m12 m13 f0 f1 f2 f3 f4 f5 f6 f7 f8 f9 f10 f11 f12 f13
      clear hown1 hgrow hbb nb1 nb2 g0 g1 g2 g3 g4 g5 g6 g7 g8 g9 g10 g11 g12 g13
      replace hall := Lib.hid hall
      go_wp2_with fail
      go_meet
      exact hall.out
  case rest =>
    obtain ⟨gm, A2, c2, rfl, hgm, hbk, hown, hbel⟩ := hcut
    have hst : RGL w1 gm y0 y1 y2 y3 y4 y5 y6 y7 y8 y9 y10 y11 (256 * (y12.toNat : Int) + (y13.toNat : Int)) A2 (n - 14) c2 ds 0 wc := ⟨hbk, hown, hbel⟩
    have nbg : b ≠ gm := by omega
    have HST := Lib.hid hst
    clear hbk hown hbel hst
    have GS : Hid (∀ o v wr, w1.cell? ⟨b, o, none⟩ = some v → Below w1.heap.size w1 wr → wr.cell? ⟨b, o, none⟩ = some v) := fun o v wr h hb => (hb.cell (p := ⟨b, o, none⟩) lb).trans h
    have G0 := Lib.hid g0
    have G1 := Lib.hid g1
    have G2 := Lib.hid g2
    have G3 := Lib.hid g3
    have G4 := Lib.hid g4
    have G5 := Lib.hid g5
    have G6 := Lib.hid g6
    have G7 := Lib.hid g7
    have G8 := Lib.hid g8
    have G9 := Lib.hid g9
    have G10 := Lib.hid g10
    have G11 := Lib.hid g11
    clear g0 g1 g2 g3 g4 g5 g6 g7 g8 g9 g10 g11 g12 g13
    obtain ⟨K, EK⟩ : ∃ K, Hid (256 * (y12.toNat : Int) + (y13.toNat : Int) = K) := ⟨_, rfl⟩
    rw [EK.out] at HST
    go_wp2_with fail
    go_loopw [5] (fun i wr => ∃ j : Nat, j ≤ 6 ∧ i = .int .i64 j ∧ RGL w1 gm y0 y1 y2 y3 y4 y5 y6 y7 y8 y9 y10 y11 K A2 (n - 14) c2 ds j wr) (fun i _ => 6 - (intOf i).toNat)
    case atStart => exact ⟨0, by omega, rfl, HST.out⟩
    case round =>
      obtain ⟨j, hj, rfl, hrl⟩ := hrel
      by_cases hlt : j < 6
      · have HR := Lib.hid hrl
        clear hrl HST
        rcases (by omega : j = 0 ∨ j = 1 ∨ j = 2 ∨ j = 3 ∨ j = 4 ∨ j = 5) with rfl | rfl | rfl | rfl | rfl | rfl
        · have x0 := GS.out _ _ _ G0.out HR.out.2.2
          have x1 := GS.out _ _ _ G6.out HR.out.2.2
          obtain ⟨m0, m1, m2, m3, m4, m5, m6, m7, m8, m9, m10, m11, m12, m13⟩ := (show Blk wr gm 42 #[.int .u8 0, .int .u8 0, .int .u8 0, .int .u8 0, .int .u8 0, .int .u8 0, .int .u8 0, .int .u8 0, .int .u8 0, .int .u8 0, .int .u8 0, .int .u8 0, .int .u16 K, .slice A2 (n - 14) c2] from HR.out.1).cells14
          have q0 := HR.out.1.free 0
          have q1 := HR.out.1.free 6
          clear m1 m2 m3 m4 m5 m7 m8 m9 m10 m11 m12 m13
          go_wp2_with fail
          have nbg2 : gm ≠ b := by omega
          go_region
          go_wp2_with fail
          exact ⟨⟨1, by omega, rfl, (RGL.step HR.out hgm 0 6 (.int .u8 (y0.toNat : Int)) (.int .u8 (y6.toNat : Int)) rfl).drew⟩, by simp [intOf]⟩
        · have x0 := GS.out _ _ _ G1.out HR.out.2.2
          have x1 := GS.out _ _ _ G7.out HR.out.2.2
          obtain ⟨m0, m1, m2, m3, m4, m5, m6, m7, m8, m9, m10, m11, m12, m13⟩ := (show Blk wr gm 42 #[.int .u8 (y0.toNat : Int), .int .u8 0, .int .u8 0, .int .u8 0, .int .u8 0, .int .u8 0, .int .u8 (y6.toNat : Int), .int .u8 0, .int .u8 0, .int .u8 0, .int .u8 0, .int .u8 0, .int .u16 K, .slice A2 (n - 14) c2] from HR.out.1).cells14
          have q0 := HR.out.1.free 1
          have q1 := HR.out.1.free 7
          clear m0 m2 m3 m4 m5 m6 m8 m9 m10 m11 m12 m13
          go_wp2_with fail
          have nbg2 : gm ≠ b := by omega
          go_region
          go_wp2_with fail
          exact ⟨⟨2, by omega, rfl, (RGL.step HR.out hgm 1 7 (.int .u8 (y1.toNat : Int)) (.int .u8 (y7.toNat : Int)) rfl).drew⟩, by simp [intOf]⟩
        · have x0 := GS.out _ _ _ G2.out HR.out.2.2
          have x1 := GS.out _ _ _ G8.out HR.out.2.2
          obtain ⟨m0, m1, m2, m3, m4, m5, m6, m7, m8, m9, m10, m11, m12, m13⟩ := (show Blk wr gm 42 #[.int .u8 (y0.toNat : Int), .int .u8 (y1.toNat : Int), .int .u8 0, .int .u8 0, .int .u8 0, .int .u8 0, .int .u8 (y6.toNat : Int), .int .u8 (y7.toNat : Int), .int .u8 0, .int .u8 0, .int .u8 0, .int .u8 0, .int .u16 K, .slice A2 (n - 14) c2] from HR.out.1).cells14
          have q0 := HR.out.1.free 2
          have q1 := HR.out.1.free 8
          clear m0 m1 m3 m4 m5 m6 m7 m9 m10 m11 m12 m13
          go_wp2_with fail
          have nbg2 : gm ≠ b := by omega
          go_region
          go_wp2_with fail
          exact ⟨⟨3, by omega, rfl, (RGL.step HR.out hgm 2 8 (.int .u8 (y2.toNat : Int)) (.int .u8 (y8.toNat : Int)) rfl).drew⟩, by simp [intOf]⟩
        · have x0 := GS.out _ _ _ G3.out HR.out.2.2
          have x1 := GS.out _ _ _ G9.out HR.out.2.2
          obtain ⟨m0, m1, m2, m3, m4, m5, m6, m7, m8, m9, m10, m11, m12, m13⟩ := (show Blk wr gm 42 #[.int .u8 (y0.toNat : Int), .int .u8 (y1.toNat : Int), .int .u8 (y2.toNat : Int), .int .u8 0, .int .u8 0, .int .u8 0, .int .u8 (y6.toNat : Int), .int .u8 (y7.toNat : Int), .int .u8 (y8.toNat : Int), .int .u8 0, .int .u8 0, .int .u8 0, .int .u16 K, .slice A2 (n - 14) c2] from HR.out.1).cells14
          have q0 := HR.out.1.free 3
          have q1 := HR.out.1.free 9
          clear m0 m1 m2 m4 m5 m6 m7 m8 m10 m11 m12 m13
          go_wp2_with fail
          have nbg2 : gm ≠ b := by omega
          go_region
          go_wp2_with fail
          exact ⟨⟨4, by omega, rfl, (RGL.step HR.out hgm 3 9 (.int .u8 (y3.toNat : Int)) (.int .u8 (y9.toNat : Int)) rfl).drew⟩, by simp [intOf]⟩
        · have x0 := GS.out _ _ _ G4.out HR.out.2.2
          have x1 := GS.out _ _ _ G10.out HR.out.2.2
          obtain ⟨m0, m1, m2, m3, m4, m5, m6, m7, m8, m9, m10, m11, m12, m13⟩ := (show Blk wr gm 42 #[.int .u8 (y0.toNat : Int), .int .u8 (y1.toNat : Int), .int .u8 (y2.toNat : Int), .int .u8 (y3.toNat : Int), .int .u8 0, .int .u8 0, .int .u8 (y6.toNat : Int), .int .u8 (y7.toNat : Int), .int .u8 (y8.toNat : Int), .int .u8 (y9.toNat : Int), .int .u8 0, .int .u8 0, .int .u16 K, .slice A2 (n - 14) c2] from HR.out.1).cells14
          have q0 := HR.out.1.free 4
          have q1 := HR.out.1.free 10
          clear m0 m1 m2 m3 m5 m6 m7 m8 m9 m11 m12 m13
          go_wp2_with fail
          have nbg2 : gm ≠ b := by omega
          go_region
          go_wp2_with fail
          exact ⟨⟨5, by omega, rfl, (RGL.step HR.out hgm 4 10 (.int .u8 (y4.toNat : Int)) (.int .u8 (y10.toNat : Int)) rfl).drew⟩, by simp [intOf]⟩
        · have x0 := GS.out _ _ _ G5.out HR.out.2.2
          have x1 := GS.out _ _ _ G11.out HR.out.2.2
          obtain ⟨m0, m1, m2, m3, m4, m5, m6, m7, m8, m9, m10, m11, m12, m13⟩ := (show Blk wr gm 42 #[.int .u8 (y0.toNat : Int), .int .u8 (y1.toNat : Int), .int .u8 (y2.toNat : Int), .int .u8 (y3.toNat : Int), .int .u8 (y4.toNat : Int), .int .u8 0, .int .u8 (y6.toNat : Int), .int .u8 (y7.toNat : Int), .int .u8 (y8.toNat : Int), .int .u8 (y9.toNat : Int), .int .u8 (y10.toNat : Int), .int .u8 0, .int .u16 K, .slice A2 (n - 14) c2] from HR.out.1).cells14
          have q0 := HR.out.1.free 5
          have q1 := HR.out.1.free 11
          clear m0 m1 m2 m3 m4 m6 m7 m8 m9 m10 m12 m13
          go_wp2_with fail
          have nbg2 : gm ≠ b := by omega
          go_region
          go_wp2_with fail
          exact ⟨⟨6, by omega, rfl, (RGL.step HR.out hgm 5 11 (.int .u8 (y5.toNat : Int)) (.int .u8 (y11.toNat : Int)) rfl).drew⟩, by simp [intOf]⟩
      · have ej : j = 6 := by omega
        subst ej
        have hbk : Blk wr gm 42 (rfv y0 y1 y2 y3 y4 y5 y6 y7 y8 y9 y10 y11 K A2 (n - 14) c2 6) := hrl.1
        have hbx := HX.out.below hrl.2.2 HX.out.lt
        obtain ⟨m0, m1, m2, m3, m4, m5, m6, m7, m8, m9, m10, m11, m12, m13⟩ := hbx.cells14
        obtain ⟨f0, f1, f2, f3, f4, f5, f6, f7, f8, f9, f10, f11, f12, f13⟩ := hbx.frees14
        obtain ⟨d0, d1, d2, d3, d4, d5, d6, d7, d8, d9, d10, d11, d12, d13⟩ := (show Blk wr gm 42 #[.int .u8 (y0.toNat : Int), .int .u8 (y1.toNat : Int), .int .u8 (y2.toNat : Int), .int .u8 (y3.toNat : Int), .int .u8 (y4.toNat : Int), .int .u8 (y5.toNat : Int), .int .u8 (y6.toNat : Int), .int .u8 (y7.toNat : Int), .int .u8 (y8.toNat : Int), .int .u8 (y9.toNat : Int), .int .u8 (y10.toNat : Int), .int .u8 (y11.toNat : Int), .int .u16 K, .slice A2 (n - 14) c2] from hbk).cells14
        have st := hbx.store14 (.int .u8 (y0.toNat : Int)) (.int .u8 (y1.toNat : Int)) (.int .u8 (y2.toNat : Int)) (.int .u8 (y3.toNat : Int)) (.int .u8 (y4.toNat : Int)) (.int .u8 (y5.toNat : Int)) (.int .u8 (y6.toNat : Int)) (.int .u8 (y7.toNat : Int)) (.int .u8 (y8.toNat : Int)) (.int .u8 (y9.toNat : Int)) (.int .u8 (y10.toNat : Int)) (.int .u8 (y11.toNat : Int)) (.int .u16 K) (.slice A2 (n - 14) c2)
        have HO := Lib.hid ((hrl.2.1.grown hbx (by decide) st.2).base HB.out.size)
        have HF := Lib.hid (below_grown (HB.out.trans (hrl.2.2.mono HB.out.size)) st.2 (Nat.le_refl _) (Nat.le_refl _))
        have HK := Lib.hid st.1
        clear st hbk hbx hrl HST
        go_wp2_with fail
        generalize World.setCell _ _ (Value.slice A2 (n - 14) c2) = w5 at HK HO HF ⊢
        clear m0 m1 m2 m3 m4 m5 m6 m7 m8 m9 m10 m11 m12 m13 f0 f1 f2 f3 f4 f5 f6 f7 f8 f9 f10 f11 f12 f13 d0 d1 d2 d3 d4 d5 d6 d7 d8 d9 d10 d11 d12 d13
        obtain ⟨d0, d1, d2, d3, d4, d5, d6, d7, d8, d9, d10, d11, d12, d13⟩ := HK.out.cells14
        exact bodyPost_ret (v := .tuple #[.agg #[.int .u8 (y0.toNat : Int), .int .u8 (y1.toNat : Int), .int .u8 (y2.toNat : Int), .int .u8 (y3.toNat : Int), .int .u8 (y4.toNat : Int), .int .u8 (y5.toNat : Int), .int .u8 (y6.toNat : Int), .int .u8 (y7.toNat : Int), .int .u8 (y8.toNat : Int), .int .u8 (y9.toNat : Int), .int .u8 (y10.toNat : Int), .int .u8 (y11.toNat : Int), .int .u16 K, .slice A2 (n - 14) c2], .int .i64 0]) (by simp [results, Try.results25, go_sem, d0, d1, d2, d3, d4, d5, d6, d7, d8, d9, d10, d11, d12, d13]) rfl ⟨A2, c2, by rw [EK.out], HO.out, HF.out⟩

theorem rread_good (A : Option Addr) (bs : List UInt8) (n c : Nat) (w : World) (hn : bs.length = n) (hs : Sl w A c bs) (hw : okLen n) :
    Calls Try.prog 25 #[.slice A n c] w (EGot bs w) := by
  obtain ⟨h0, h1⟩ := hw
  have hk : okLen bs.length := by rw [hn]; exact ⟨h0, h1⟩
  obtain ⟨b, off, rfl, hc⟩ := hs.1.at_ (by omega)
  have hd := hs.drop 14
  simp only [Option.map_some, add_lit'] at hd
  refine (rread_good0 (bs.getD 0 0) (bs.getD 1 0) (bs.getD 2 0) (bs.getD 3 0) (bs.getD 4 0) (bs.getD 5 0) (bs.getD 6 0) (bs.getD 7 0) (bs.getD 8 0) (bs.getD 9 0) (bs.getD 10 0) (bs.getD 11 0) (bs.getD 12 0) (bs.getD 13 0) b off n c (bs.drop 14) w h0 h1 (by have := hs.2.1; omega) (by rw [List.length_drop, hn]) hd (by have := hc 0 (by omega); simpa using this) (by have := hc 1 (by omega); simpa using this) (by have := hc 2 (by omega); simpa using this) (by have := hc 3 (by omega); simpa using this) (by have := hc 4 (by omega); simpa using this) (by have := hc 5 (by omega); simpa using this) (by have := hc 6 (by omega); simpa using this) (by have := hc 7 (by omega); simpa using this) (by have := hc 8 (by omega); simpa using this) (by have := hc 9 (by omega); simpa using this) (by have := hc 10 (by omega); simpa using this) (by have := hc 11 (by omega); simpa using this) (by have := hc 12 (by omega); simpa using this) (by have := hc 13 (by omega); simpa using this)).mono ?_
  rintro e w' ⟨X, x, rfl, ho, hb⟩
  have h20 := take6 bs 0 (by omega)
  have h21 := take6 bs 6 (by omega)
  rw [List.drop_zero] at h20
  refine ⟨X, x, ?_, by rw [readD, if_pos hk]; exact ho, hb⟩
  simp only [readTo, readFr, readKind, readD, readE, if_pos hk]
  rw [h20, h21, List.length_drop, hn]
  rfl
theorem rread_any (A : Option Addr) (bs : List UInt8) (n c : Nat) (w : World) (hn : bs.length = n) (hs : Sl w A c bs) :
    Calls Try.prog 25 #[.slice A n c] w (EGot bs w) := by
  by_cases hw : okLen n
  · exact rread_good A bs n c w hn hs hw
  · exact rread_wrong A bs n c w hn (by have := hs.2.1; have := hs.2.2.1; omega) hw
theorem readTo_length (bs : List UInt8) : (readTo bs).length = 6 := by
  unfold readTo
  split
  · rename_i h; obtain ⟨h0, _⟩ := h; rw [List.length_take]; omega
  · rfl
theorem readFr_length (bs : List UInt8) : (readFr bs).length = 6 := by
  unfold readFr
  split
  · rename_i h; obtain ⟨h0, _⟩ := h; rw [List.length_take, List.length_drop]; omega
  · rfl
end Go.Proofs.Ythchjfkbaocoiaa
