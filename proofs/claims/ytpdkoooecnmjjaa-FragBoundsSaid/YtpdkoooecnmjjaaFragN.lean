/-
  The walk of put.
-/
import Derived.Test.YtpdkoooecnmjjaaFragM
namespace Go.Proofs.Ytpdkoooecnmjjaa
open Go.RowKit
set_option linter.unusedVariables false

theorem cell_drew0 {w : World} {p : Addr} {v : Value} (h : w.cell? p = some v) : w.drew.cell? p = some v := h
/-- Where put ends: the whole's other cells. -/
def endW (wr : World) (g gp : Nat) (E pcs : Int) (mo h0 : Bool) : World :=
  (cond h0 ((cond mo wr (wr.setCell ⟨g, 6, none⟩ (.int .i64 E))).setCell ⟨g, 7, none⟩ (PV gp)) (cond mo wr (wr.setCell ⟨g, 6, none⟩ (.int .i64 E)))).setCell ⟨g, 5, none⟩ (.int .i64 (pcs + 1))
def endX (y : WX) (gp : Nat) (E : Int) (mo h0 : Bool) : WX :=
  { y with fin := cond mo y.fin E, head := cond h0 (some gp) y.head, pieces := y.pieces + 1 }
theorem put_endW {wr : World} {B gp : Nat} {y : WX} (o : WAt wr B y) (hgp : HeadAt wr B gp) (E : Int) (mo h0 : Bool) :
    WAt (endW wr y.g gp E y.pieces mo h0) B (endX y gp E mo h0) ∧ Frame (WF y) wr (endW wr y.g gp E y.pieces mo h0) := by
  have n0 := head_free o hgp
  have s1 : WAt (cond mo wr (wr.setCell ⟨y.g, 6, none⟩ (.int .i64 E))) B { y with fin := cond mo y.fin E } ∧ Frame (WF y) wr (cond mo wr (wr.setCell ⟨y.g, 6, none⟩ (.int .i64 E))) := by
    cases mo
    · exact stC o 6 _ { y with fin := E } rfl rfl ⟨rfl, rfl, rfl, rfl, rfl, rfl⟩ (fun h hh => .inl hh)
    · exact ⟨o, Frame.refl _ _⟩
  have hg1 : HeadAt (cond mo wr (wr.setCell ⟨y.g, 6, none⟩ (.int .i64 E))) B gp := hgp.framed s1.2 n0
  unfold endW
  generalize cond mo wr (wr.setCell ⟨y.g, 6, none⟩ (.int .i64 E)) = w1 at s1 hg1 ⊢
  have s2 : WAt (cond h0 (w1.setCell ⟨y.g, 7, none⟩ (PV gp)) w1) B { y with fin := cond mo y.fin E, head := cond h0 (some gp) y.head } ∧ Frame (WF y) w1 (cond h0 (w1.setCell ⟨y.g, 7, none⟩ (PV gp)) w1) := by
    cases h0
    · exact ⟨s1.1, Frame.refl _ _⟩
    · exact stC s1.1 7 _ { y with fin := cond mo y.fin E, head := some gp } rfl rfl ⟨rfl, rfl, rfl, rfl, rfl, rfl⟩ (fun h hh => .inr (by cases hh; exact hg1))
  generalize cond h0 (w1.setCell ⟨y.g, 7, none⟩ (PV gp)) w1 = w2 at s2 ⊢
  have s3 := stC s2.1 5 (.int .i64 (y.pieces + 1)) (endX y gp E mo h0) rfl rfl ⟨rfl, rfl, rfl, rfl, rfl, rfl⟩ (fun h hh => .inl hh)
  exact ⟨s3.1, (s1.2.trans s2.2 (fun i hi => .inl hi)).trans s3.2 (fun i hi => .inl hi)⟩
theorem put_done {w w1 w2 wr : World} {B gp n : Nat} {x x2 : WX} {a : Nat} {d : List UInt8} {S : List UInt8 × List Bool × Int} {D : List UInt8} {H : List Bool} {m E : Int} {mo h0 : Bool} (hb1 : Below w.heap.size w w1) (lat : Later w1.heap.size x x2) (hfr : Frame (WF x) w1 w2) (ox : WAt w1 B x)
    (s : PutS w2 B x2 a d S n D H m wr) (hn : d.length = n) (hS : putL a d (x2.data, x2.has, x2.many) = S) (hE : ((a + d.length : Nat) : Int) = E)
    (hpu : x2.pure = { x.pure with data := grownL 0 (a + d.length) x.data, has := grownL false (a + d.length) x.has }) (hgp : HeadAt wr B gp) (hh0 : h0 = (a == 0 && !x2.head.isSome)) :
    PutR B x a d mo w (.returned (.tuple #[])) (endW wr x2.g gp E x2.pieces mo h0) := by
  have h1 := put_endW s.wat hgp E mo h0
  have hSe : (D, H, m) = S := by
    have := s.eq
    rw [← hn, List.drop_length] at this
    exact this
  have e1 : x2.data = grownL 0 (a + d.length) x.data := congrArg WP.data hpu
  have e2 : x2.has = grownL false (a + d.length) x.has := congrArg WP.has hpu
  have e3 : x2.many = x.many := congrArg WP.many hpu
  have hT : putL a d (grownL 0 (a + d.length) x.data, grownL false (a + d.length) x.has, x.many) = (D, H, m) := by rw [← e1, ← e2, ← e3, hS, hSe]
  have l2 : Later w1.heap.size x (endX (x2.upd D H m) gp E mo h0) := ⟨lat.g, fun k hk => lat.d k (by rw [← hk]; exact own_same _ _ _ _ _), fun k hk => lat.h k (by rw [← hk]; exact own_same _ _ _ _ _)⟩
  refine ⟨rfl, _, (Later.refl w.heap.size x).trans l2 hb1.size, h1.1, ?_, ?_⟩
  · have f1 : x2.kf = x.kf := congrArg WP.kf hpu
    have f2 : x2.kt = x.kt := congrArg WP.kt hpu
    have f3 : x2.kk = x.kk := congrArg WP.kk hpu
    have f4 : x2.ki = x.ki := congrArg WP.ki hpu
    have f5 : x2.began = x.began := congrArg WP.began hpu
    have f6 : x2.pieces = x.pieces := congrArg WP.pieces hpu
    have f7 : x2.fin = x.fin := congrArg WP.fin hpu
    have f8 : x2.head.isSome = x.head.isSome := congrArg WP.hd hpu
    have hT' : putL a d (grownL 0 (a + d.length) x.pure.data, grownL false (a + d.length) x.pure.has, x.pure.many) = (D, H, m) := hT
    unfold putP
    rw [hT']
    simp only [WX.pure, endX, WX.upd, f1, f2, f3, f4, f5, f6, f7]
    rw [← f8, hE]
    congr 1
    · cases mo <;> rfl
    · subst hh0
      cases x2.head <;> cases (a == 0) <;> rfl
  · have g1 : Frame (WF x) w1 wr := hfr.trans s.fr (fun i hi => by
      rcases hi with h | h | h
      · exact .inl (.inl (h.trans lat.g))
      · exact (lat.d i h).imp (fun h => .inr (.inl h)) id
      · exact (lat.h i h).imp (fun h => .inr (.inr h)) id)
    have g2 : Frame (WF x) w1 (endW wr x2.g gp E x2.pieces mo h0) := g1.trans h1.2 (fun i hi => by
      have hi' : WF x2 i := WF_same hi rfl rfl rfl
      rcases hi' with h | h | h
      · exact .inl (.inl (h.trans lat.g))
      · exact (lat.d i h).imp (fun h => .inr (.inl h)) id
      · exact (lat.h i h).imp (fun h => .inr (.inr h)) id)
    exact (Frame.of_below hb1).trans g2 (fun i hi => .inl hi)
set_option maxHeartbeats 8000000 in
set_option maxRecDepth 100000 in
theorem put_any {w : World} {B Bd : Nat} {x : WX} (o : WAt w B x) (hlen : x.has.length = x.data.length) (a : Nat) (AT : Int) (hA : (a : Int) = AT) (id at_ life kind : Int) (wh mo : Bool) (f t : Int) (D : Option Addr) (n q : Nat) (d : List UInt8) (hn : d.length = n) (hbig : AT + (n : Int) ≤ 70000) (hdl : (x.data.length : Int) ≤ 70000)
    (hs : Own w Bd D q d) (hap : ∀ k, (Value.slice D d.length q).ownBlock = some k → dblk x ≠ some k) (hm0 : 0 ≤ x.many) (hm1 : x.many ≤ 70000) (hp0 : 0 ≤ x.pieces) (hp1 : x.pieces ≤ 64) :
    Calls Try.prog 18 #[PV x.g, .int .i64 AT, .agg (pkV id at_ life kind wh mo f t D n q)] w (PutR B x a d mo w) := by
  have hb1 : Below w.heap.size w (w.alloc (.cells (pkV id at_ life kind wh mo f t D n q) 33)) := (Below.refl _ _).alloc (Nat.le_refl _) _
  have hbp := blk_new w 33 (pkV id at_ life kind wh mo f t D n q)
  have o1 := o.below hb1
  have hs1 := hs.keep hb1
  have hBx : B ≤ w.heap.size := by have := o.base; have := o.blk.lt; omega
  have hh1 : HeadAt (w.alloc (.cells (pkV id at_ life kind wh mo f t D n q) 33)) B w.heap.size := ⟨hBx, _, _, _, _, _, _, _, _, _, _, _, hbp⟩
  have HB1 := Lib.hid hb1
  have HN := Lib.hid hn
  have HO := Lib.hid o
  obtain ⟨E, EE⟩ : ∃ z : Int, Hid (((a + d.length : Nat) : Int) = z) := ⟨_, rfl⟩
  have A0 : Hid (0 ≤ AT) := by show _ ≤ _; omega
  have EE2 : Hid (AT + (n : Int) = E) := by show _ = _; rw [← EE.out, hn]; omega
  have hend : wrap64 (AT + (n : Int)) = E := (IntWalk.wrap64_in _ ⟨by omega, by omega⟩).trans EE2.out
  have HE1 : Hid (E ≤ 70000) := by show _ ≤ _; rw [← EE2.out]; exact hbig
  have HAA := Lib.hid hA
  have HLEN := Lib.hid hlen
  have HDL := Lib.hid hdl
  have HM0 := Lib.hid hm0
  have HM1 := Lib.hid hm1
  have HP0 := Lib.hid hp0
  have HP1 := Lib.hid hp1
  have GROW := Lib.hid (grow_any o1 hlen (a + d.length) E EE.out HE1.out hdl)
  have HF0 := Lib.hid (own_free hs1 o1 hap)
  have HH0 := Lib.hid (head_free o1 hh1)
  have HO1 := Lib.hid o1
  have HS1 := Lib.hid hs1
  have HAP := Lib.hid hap
  obtain ⟨g, EG⟩ : ∃ z, Hid (x.g = z) := ⟨_, rfl⟩
  rw [EG.out] at GROW ⊢
  clear hb1 hs o hA hn hlen hdl hbig hm0 hm1 hp0 hp1 o1 hs1 hap hBx
  go_enter Try.func18, Try.ntmps18
  go_upto_region 1 with fail
  generalize w.alloc (.cells (pkV id at_ life kind wh mo f t D n q) 33) = w1 at *
  obtain ⟨gp, EGP⟩ : ∃ z, Hid (w.heap.size = z) := ⟨_, rfl⟩
  rw [EGP.out] at hbp hh1 HH0 ⊢
  have HBP := Lib.hid hbp
  have HH1 := Lib.hid hh1
  have p8 : w1.cell? ⟨gp, 8, none⟩ = some (.slice D n q) := hbp.cell 8
  clear hbp hh1
  go_wp2_with fail
  try simp only [hend]
  refine GROW.out.mono ?_
  rintro e w2 ⟨rfl, x2, later, o2, hhd, hpu, hfr⟩
  have hgx : x2.g = g := later.g.trans EG.out
  have hs2 : Own w2 Bd D q d := owns_framed HS1.out hfr HF0.out
  have hbp2 : Blk w2 gp 33 (pkV id at_ life kind wh mo f t D n q) := HBP.out.framed hfr HH0.out
  have hh2 : HeadAt w2 B gp := HH1.out.framed hfr HH0.out
  have HF2 := Lib.hid (own_free hs2 o2 (fun k hk h => by
    rcases later.d k h with h1 | h1
    · exact HAP.out k hk h1
    · have := (World.ownsRow.lt HS1.out k hk).2
      omega))
  have HH2 := Lib.hid (head_free o2 hh2)
  have HHD := Lib.hid hh2
  have e1 : x2.data = grownL 0 (a + d.length) x.data := congrArg WP.data hpu
  have e2 : x2.has = grownL false (a + d.length) x.has := congrArg WP.has hpu
  have e3 : x2.many = x.many := congrArg WP.many hpu
  have e4 : x2.pieces = x.pieces := congrArg WP.pieces hpu
  obtain ⟨dl, EDL⟩ : ∃ z, Hid (x2.data.length = z) := ⟨_, rfl⟩
  have l2 : x2.has.length = dl := by rw [← EDL.out, e1, e2]; simp only [grownL, List.length_append, List.length_replicate]; rw [HLEN.out]
  have l3 : a + n ≤ dl := by rw [← EDL.out, e1]; simp only [grownL, List.length_append, List.length_replicate]; rw [HN.out]; omega
  have L2 := Lib.hid l2
  have L3 := Lib.hid l3
  obtain ⟨S, ES⟩ : ∃ z, Hid (putL a d (x2.data, x2.has, x2.many) = z) := ⟨_, rfl⟩
  have s0 : PutS w2 B x2 a d S 0 x2.data x2.has x2.many w2 := ⟨o2, rfl, by rw [l2, EDL.out], Frame.refl _ _, ES.out, by rw [e3]; exact HM0.out, by rw [e3]; simp⟩
  have HS0 := Lib.hid s0
  have HS2 := Lib.hid hs2
  have HBP2 := Lib.hid hbp2
  have LAT := Lib.hid later
  have O2 := Lib.hid o2
  have HPU := Lib.hid hpu
  have HHX := Lib.hid hhd
  have HFR := Lib.hid hfr
  have E3 := Lib.hid e3
  have E4 := Lib.hid e4
  have HGX := Lib.hid hgx
  have p8' : w2.cell? ⟨gp, 8, none⟩ = some (.slice D n q) := hbp2.cell 8
  clear p8 hs2 hbp2 hh2 e1 e2 e3 e4 l2 l3 s0 later o2 hpu hhd hfr hgx GROW hend
  go_upto_region 3 with fail
  go_loopw [19] (fun v wr => ∃ (i : Nat) (D' : List UInt8) (H : List Bool) (m : Int), i ≤ n ∧ v = .int .i64 i ∧ PutS w2 B x2 a d S i D' H m wr) (fun v _ => n - (intOf v).toNat)
  case atStart => exact ⟨0, _, _, _, Nat.zero_le _, rfl, HS0.out⟩
  case round =>
    obtain ⟨i, D', H, m, hi, rfl, s⟩ := hrel
    have HS := Lib.hid s
    clear s
    by_cases hlt : i < n
    · have hlt' : (i : Int) < (n : Int) := by omega
      have hid : i < d.length := by rw [HN.out]; exact hlt
      obtain ⟨k, EK⟩ : ∃ k, Hid (a + i = k) := ⟨_, rfl⟩
      have hk : wrap64 (AT + (i : Int)) = (k : Int) := (IntWalk.wrap64_in _ ⟨by have := A0.out; omega, by have := HE1.out; have := EE2.out; omega⟩).trans (by rw [← EK.out, ← HAA.out]; omega)
      have hkl : k < dl := by have := L3.out; have := EK.out; omega
      have hkl' : (k : Int) < (dl : Int) := by omega
      have hk0 : (0 : Int) ≤ (k : Int) := Int.natCast_nonneg k
      have hnx : wrap64 ((i : Int) + 1) = ((i + 1 : Nat) : Int) := (IntWalk.wrap64_in _ ⟨by omega, by have := A0.out; have := HE1.out; have := EE2.out; omega⟩).trans (by omega)
      have HM : Hid (n - (i + 1) < n - i) := by show _ < _; omega
      obtain ⟨b, off, ED, hc⟩ := (Own.bs (owns_framed HS2.out HS.out.fr HF2.out)).at_ (by omega)
      have cd := hc i hid
      obtain ⟨u, EU⟩ : ∃ u : Int, Hid (((d.getD i 0).toNat : Int) = u) := ⟨_, rfl⟩
      rw [EU.out] at cd
      obtain ⟨hg, EHG, _, _⟩ := HS.out.wat.has.form (by show 0 < H.length; rw [HS.out.l2, EDL.out]; omega)
      obtain ⟨dg, EDG, _, _⟩ := HS.out.wat.data.form (by show 0 < D'.length; rw [HS.out.l1, EDL.out]; omega)
      replace EHG : x2.hA = some ⟨hg, 0, none⟩ := EHG
      replace EDG : x2.dA = some ⟨dg, 0, none⟩ := EDG
      have HHG := Lib.hid EHG
      have HDG := Lib.hid EDG
      have c9 : wr.cell? ⟨g, 9, none⟩ = some (.slice (some ⟨hg, 0, none⟩) dl x2.hc) := by
        have h9 : wr.cell? ⟨x2.g, 9, none⟩ = some (.slice x2.hA H.length x2.hc) := HS.out.wat.blk.cell 9
        rw [HGX.out, EHG, HS.out.l2, EDL.out] at h9
        exact h9
      have oh := HS.out.wat.has
      have ch : wr.cell? ⟨hg, k, none⟩ = some (.bool (H.getD k false)) := by
        have o' : OwnB wr B (some ⟨hg, 0, none⟩) x2.hc H := by rw [← EHG]; exact oh
        exact o'.cell k (by rw [HS.out.l2, EDL.out]; exact hkl)
      subst ED
      clear hc oh EHG EDG hlt
      cases hb : H.getD k false
      · rw [hb] at ch
        have SD := HS
        have st1 := stD SD.out.wat (dg := dg) HDG.out k (d.getD i 0)
        have st2 := stH SD.out.wat (hg := hg) HHG.out k true
        have od : OwnB wr B (some ⟨hg, 0, none⟩) x2.hc H := by rw [← HHG.out]; exact SD.out.wat.has
        have oe : Own wr B (some ⟨dg, 0, none⟩) x2.dc D' := by rw [← HDG.out]; exact SD.out.wat.data
        have kd : k < D'.length := by rw [SD.out.l1, EDL.out]; exact hkl
        have kh : k < H.length := by rw [SD.out.l2, EDL.out]; exact hkl
        have q1 : wr.cell? ⟨g, 8, none⟩ = some (.slice (some ⟨dg, 0, none⟩) dl x2.dc) := by
          have h9 : wr.cell? ⟨x2.g, 8, none⟩ = some (.slice x2.dA D'.length x2.dc) := SD.out.wat.blk.cell 8
          rw [HGX.out, HDG.out, SD.out.l1, EDL.out] at h9
          exact h9
        have q2 : wr.cell? ⟨g, 9, none⟩ = some (.slice (some ⟨hg, 0, none⟩) dl x2.hc) := c9
        have q3 : (wr.setCell ⟨dg, k, none⟩ (.int .u8 u)).cell? ⟨g, 9, none⟩ = some (.slice (some ⟨hg, 0, none⟩) dl x2.hc) := by
          have h9 : (wr.setCell ⟨dg, k, none⟩ (.int .u8 ((d.getD i 0).toNat : Int))).cell? ⟨x2.g, 9, none⟩ = some (.slice x2.hA H.length x2.hc) := st1.1.blk.cell 9
          rw [HGX.out, HHG.out, SD.out.l2, EDL.out, EU.out] at h9
          exact h9
        have q4 : (wr.setCell ⟨hg, k, none⟩ (.bool true)).cell? ⟨g, 8, none⟩ = some (.slice (some ⟨dg, 0, none⟩) dl x2.dc) := by
          have h9 : (wr.setCell ⟨hg, k, none⟩ (.bool true)).cell? ⟨x2.g, 8, none⟩ = some (.slice x2.dA D'.length x2.dc) := st2.1.blk.cell 8
          rw [HGX.out, HDG.out, SD.out.l1, EDL.out] at h9
          exact h9
        have q5 := oe.cell k kd
        have q6 := oe.free k
        have q7 := od.cell k kh
        have q8 := od.free k
        have q9 : (wr.setCell ⟨dg, k, none⟩ (.int .u8 u)).cell? ⟨hg, k, none⟩ = some (.bool (H.getD k false)) := by
          have o' : OwnB (wr.setCell ⟨dg, k, none⟩ (.int .u8 u)) B (some ⟨hg, 0, none⟩) x2.hc H := by rw [← HHG.out, ← EU.out]; exact st1.1.has
          exact o'.cell k kh
        have q10 : (wr.setCell ⟨hg, k, none⟩ (.bool true)).cell? ⟨dg, k, none⟩ = some (.int .u8 ((D'.getD k 0).toNat : Int)) := by
          have o' : Own (wr.setCell ⟨hg, k, none⟩ (.bool true)) B (some ⟨dg, 0, none⟩) x2.dc D' := by rw [← HDG.out]; exact st2.1.data
          exact o'.cell k kd
        obtain ⟨v5, EV5⟩ : ∃ z : Int, Hid (((D'.getD k 0).toNat : Int) = z) := ⟨_, rfl⟩
        rw [EV5.out] at q5 q10
        rw [hb] at q7 q9
        have HB := Lib.hid hb
        have HID := Lib.hid hid
        have HKL := Lib.hid hkl
        have hmw : wrap64 (m + 1) = m + 1 := IntWalk.wrap64_in _ ⟨by have := SD.out.m0; omega, by have := SD.out.m1; have := E3.out; have := HM1.out; have := A0.out; have := HE1.out; have := EE2.out; omega⟩
        have nd : g ≠ dg := fun e => by
          have h1 := HS.out.wat.data
          have h2 := HS.out.wat.blk
          refine owns_ne h1 h2 (by decide) ?_
          show (Value.slice x2.dA D'.length x2.dc).ownBlock = some x2.g
          rw [HDG.out, HGX.out, e]
          rfl
        have nh : g ≠ hg := fun e => by
          have h1 := HS.out.wat.has
          have h2 := HS.out.wat.blk
          refine owns_ne h1 h2 (by decide) ?_
          show (Value.slice x2.hA H.length x2.hc).ownBlock = some x2.g
          rw [HHG.out, HGX.out, e]
          rfl
        clear st1 st2 od oe kd kh hb hid hkl
        go_upto_region 7 with fail
        simp only [hk]
        go_region_held3 (fun w' => w'.cell? ⟨g, 8, none⟩ = some (.slice (some ⟨dg, 0, none⟩) dl x2.dc) ∧ w'.cell? ⟨g, 9, none⟩ = some (.slice (some ⟨hg, 0, none⟩) dl x2.hc))
          (first | (with_reducible assumption) | (refine ⟨?_, ?_⟩ <;> (try (with_reducible refine cell_drew0 ?_)) <;> first | (with_reducible assumption) | ((with_reducible refine cell_set_far ?_ nd); with_reducible assumption) | ((with_reducible refine cell_set_far ?_ nh); with_reducible assumption) | ((with_reducible refine cell_set_far ?_ nd); (with_reducible refine cell_set_far ?_ nh); with_reducible assumption) | ((with_reducible refine cell_set_far ?_ nh); (with_reducible refine cell_set_far ?_ nd); with_reducible assumption)))
          (fail)
        all_goals
          have STP := put_step SD.out HID.out EK.out (by rw [EDL.out]; exact HKL.out) HB.out HDG.out HHG.out EU.out (.inl rfl)
          have b10 : ((wr.setCell ⟨dg, k, none⟩ (.int .u8 u)).setCell ⟨hg, k, none⟩ (.bool true)).drew.cell? ⟨g, 10, none⟩ = some (.int .i64 m) := by have h9 := STP.1.cell 10; rw [HGX.out] at h9; exact h9
          have f10 : ((wr.setCell ⟨dg, k, none⟩ (.int .u8 u)).setCell ⟨hg, k, none⟩ (.bool true)).drew.frozen? ⟨g, 10, none⟩ = false := by have h9 := STP.1.free 10; rw [HGX.out] at h9; exact h9
          have NXT : Hid (PutS w2 B x2 a d S (i + 1) (D'.set k (d.getD i 0)) (H.set k true) (m + 1) (((wr.setCell ⟨dg, k, none⟩ (.int .u8 u)).setCell ⟨hg, k, none⟩ (.bool true)).drew.setCell ⟨g, 10, none⟩ (.int .i64 (m + 1)))) := by have h9 := STP.2.drew; rw [HGX.out] at h9; exact h9
          clear STP
          generalize ((wr.setCell ⟨dg, k, none⟩ (.int .u8 u)).setCell ⟨hg, k, none⟩ (.bool true)).drew = W2 at *
          clear q1 q2 q3 q4 q5 q6 q7 q8 q9 q10
          go_wp2_with fail
          try simp only [hnx]
          go_roundw
          case rel => exact ⟨i + 1, _, _, m + 1, by omega, by first | rfl | go_num, NXT.out⟩
          case measure => simp [intOf]; exact HM.out
      · rw [hb] at ch
        have NXT := Lib.hid (put_skip HS.out hid (by rw [EK.out]; exact hb))
        clear hb hid
        go_upto_region 6 with fail
        simp only [hk]
        go_wp2_with fail
        try simp only [hnx]
        go_roundw
        case rel => exact ⟨i + 1, D', H, m, by omega, by first | rfl | go_num, NXT.out⟩
        case measure => simp [intOf]; exact HM.out
    · have ei : i = n := by omega
      subst ei
      have bgp := HBP2.out.framed HS.out.fr HH2.out
      have HGP := Lib.hid (HHD.out.framed HS.out.fr HH2.out)
      have r5 : wr.cell? ⟨gp, 5, none⟩ = some (.bool mo) := bgp.cell 5
      have r8 : wr.cell? ⟨gp, 8, none⟩ = some (.slice D i q) := bgp.cell 8
      have yb := HS.out.wat.blk
      have b5 : wr.cell? ⟨g, 5, none⟩ = some (.int .i64 x2.pieces) := by have h9 := yb.cell 5; rw [← HGX.out]; exact h9
      have b6 : wr.cell? ⟨g, 6, none⟩ = some (.int .i64 x2.fin) := by have h9 := yb.cell 6; rw [← HGX.out]; exact h9
      have b7 : wr.cell? ⟨g, 7, none⟩ = some (hdV x2.head) := by have h9 := yb.cell 7; rw [← HGX.out]; exact h9
      have f5 : wr.frozen? ⟨g, 5, none⟩ = false := by have h9 := yb.free 5; rw [← HGX.out]; exact h9
      have f6 : wr.frozen? ⟨g, 6, none⟩ = false := by have h9 := yb.free 6; rw [← HGX.out]; exact h9
      have f7 : wr.frozen? ⟨g, 7, none⟩ = false := by have h9 := yb.free 7; rw [← HGX.out]; exact h9
      have ng : g ≠ gp := fun e => HH2.out (.inl (by rw [HGX.out, e]))
      have FIN : Hid (∀ h0, h0 = (a == 0 && !x2.head.isSome) → PutR B x a d mo w (.returned (.tuple #[])) (endW wr g gp E x2.pieces mo h0)) := by
        intro h0 e0
        have h9 := put_done (h0 := h0) (mo := mo) HB1.out LAT.out HFR.out HO1.out HS.out HN.out ES.out EE.out HPU.out HGP.out e0
        rw [HGX.out] at h9
        exact h9
      have hpw : wrap64 (x2.pieces + 1) = x2.pieces + 1 := IntWalk.wrap64_in _ ⟨by have := E4.out; have := HP0.out; omega, by have := E4.out; have := HP1.out; omega⟩
      have hend : wrap64 (AT + (i : Int)) = E := (IntWalk.wrap64_in _ ⟨by have := A0.out; omega, by have := HE1.out; have := EE2.out; omega⟩).trans EE2.out
      obtain ⟨pcs, EP⟩ : ∃ z, Hid (x2.pieces = z) := ⟨_, rfl⟩
      rw [EP.out] at b5 FIN hpw
      obtain ⟨hd2, EHX⟩ : ∃ z, Hid (x2.head = z) := ⟨_, rfl⟩
      rw [EHX.out] at b7 FIN
      clear yb bgp hlt hi
      by_cases ha0 : AT = 0
      · have EA : Hid ((a == 0) = true) := by show _ = true; have := HAA.out; simp; omega
        subst ha0
        have hend0 : wrap64 (i : Int) = E := by have h9 := hend; rw [Int.zero_add] at h9; exact h9
        cases hd2
        · have FIX := Lib.hid (FIN.out true (by rw [EA.out]; rfl))
          replace b7 : wr.cell? ⟨g, 7, none⟩ = some (.pointer none) := b7
          clear FIN
          cases mo
          all_goals
            go_wp2_with fail
            try simp only [hend0]
            go_end0
            exact FIX.out
        · have FIX := Lib.hid (FIN.out false (by rw [EA.out]; rfl))
          replace b7 : wr.cell? ⟨g, 7, none⟩ = some (PV _) := b7
          clear FIN
          cases mo
          all_goals
            go_wp2_with fail
            try simp only [hend0]
            go_end0
            exact FIX.out
      · have EA : Hid ((a == 0) = false) := by show _ = false; have := HAA.out; simp; omega
        have d0 : (AT == 0) = false := by simpa using ha0
        have FIX := Lib.hid (FIN.out false (by rw [EA.out]; rfl))
        clear FIN ha0
        cases mo
        all_goals
          go_wp2_with fail
          try simp only [hend]
          go_end0
          exact FIX.out
end Go.Proofs.Ytpdkoooecnmjjaa
