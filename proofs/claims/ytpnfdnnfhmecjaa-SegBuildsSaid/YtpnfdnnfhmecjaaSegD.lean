/-
  The walk of the reference's Build.
-/
import Derived.Test.YtpnfdnnfhmecjaaSegC
import Derived.Deep.DeepCutAuto
namespace Go.Proofs.Ytpnfdnnfhmecjaa
open Go.RowKit
set_option linter.unusedVariables false

theorem room_any (n : Int) (w : World) : Calls Try.prog 26 #[.int .i64 n] w fun e w' => e = .returned (.bool (decide (r16 n))) ∧ w = w' := by
  go_enter Try.func26, Try.ntmps26
  go_wp2_with fail
  all_goals
    go_ret
    refine ⟨congrArg (fun b => Ending.returned (.bool b)) ?_, rfl⟩
    first | exact (decide_eq_true (by simp only [r16]; omega)).symm | exact (decide_eq_false (by simp only [r16]; omega)).symm | (rw [decide_eq_decide]; simp only [r16]; omega)
theorem room_yes (n : Int) (h : r16 n) : Hid (∀ w, Calls Try.prog 26 #[.int .i64 n] w fun e w' => e = .returned (.bool true) ∧ w = w') := fun w => by
  have := room_any n w
  rw [decide_eq_true h] at this
  exact this
theorem room_no (n : Int) (h : ¬ r16 n) : Hid (∀ w, Calls Try.prog 26 #[.int .i64 n] w fun e w' => e = .returned (.bool false) ∧ w = w') := fun w => by
  have := room_any n w
  rw [decide_eq_false h] at this
  exact this
theorem two_any (n : Int) (w : World) (h0 : 0 ≤ n) (h1 : n < 4294967296) :
    Calls Try.prog 27 #[.int .i64 n] w fun e w' => ∃ X x, e = .returned (.slice X 2 x) ∧ Own w' w.heap.size X x (two8 n) ∧ Below w.heap.size w w' := by
  have t0 := u8_toNat (n / 256 % 256) (by omega) (by omega)
  have t1 := u8_toNat (n % 256) (by omega) (by omega)
  have ho : Own (w.alloc (.cells #[.int .u8 (n / 256 % 256), .int .u8 (n % 256)] 5)) w.heap.size (some ⟨w.heap.size, 0, none⟩) 2 (two8 n) := by
    have hb := blk_new w 5 ((two8 n).map bval).toArray
    have := row_of_blk (n := 2) hb (Nat.le_refl _) rfl (by omega)
    have e : ((two8 n).map bval).toArray = #[.int .u8 (n / 256 % 256), .int .u8 (n % 256)] := by simp only [two8, List.map_cons, List.map_nil, bval, t0, t1]
    rw [e] at this
    exact this.own
  have HO := Lib.hid ho
  clear ho t0 t1
  go_enter Try.func27, Try.ntmps27
  go_wp2_with fail
  go_ret
  exact ⟨_, 2, rfl, HO.out, (Below.refl _ _).alloc (Nat.le_refl _) _⟩
theorem two8_length (n : Int) : (two8 n).length = 2 := rfl
theorem four8_length (n : Int) : (four8 n).length = 4 := rfl
theorem four_any (n : Int) (w : World) (h0 : 0 ≤ n) (h1 : n < 4294967296) :
    Calls Try.prog 28 #[.int .u32 n] w fun e w' => ∃ X x, e = .returned (.slice X 4 x) ∧ Own w' w.heap.size X x (four8 n) ∧ Below w.heap.size w w' := by
  have hf : two8 (n / 65536) ++ two8 (n % 65536) = four8 n := by
    unfold four8 two8
    rw [show n % 65536 / 256 % 256 = n / 256 % 256 by omega, show n % 65536 % 256 = n % 256 by omega]
  have HF := Lib.hid hf
  clear hf
  go_enter Try.func28, Try.ntmps28
  go_wp2_with fail
  refine (two_any _ _ (by omega) (by omega)).mono ?_
  rintro e w1 ⟨X, x, rfl, ho, hb⟩
  go_wp2_with fail
  refine (two_any _ _ (by omega) (by omega)).mono ?_
  rintro e w2 ⟨Y, y, rfl, ho2, hb2⟩
  have HO := Lib.hid (ho.keep hb2)
  have HO2 := Lib.hid ho2.sl
  have HB := Lib.hid (hb.trans (hb2.mono hb.size))
  clear ho hb ho2 hb2
  go_wp2_with (at_builtin; refine app_n _ rfl _ _ rfl w.heap.size X x (two8 (n / 65536)) 2 rfl rfl HO.out Y y (two8 (n % 65536)) 2 rfl rfl HO2.out (by simp [two8_length]) (by have := HB.out.size; omega) ?_; intro A2 c2 w3 hown hg)
  rw [HF.out] at hown
  have HOW := Lib.hid hown
  have HBB : Hid (Below w.heap.size w w3) := HB.out.grown hg HB.out.size (fun k hk => (ownBlock_lt HO.out k hk).1)
  clear hown hg
  go_ret
  exact ⟨A2, c2, rfl, HOW.out, HBB.out⟩

/-- The reference's bytes are being laid. -/
structure RB (w1 : World) (GB : Nat) (P : Array Value) (A : Option Addr) (c : Nat) (xs : List UInt8) (w' : World) : Prop where
  own : Own w' w1.heap.size A c xs
  box : Blk w' GB 32 P
  bel : Below w1.heap.size w1 w'
section
variable {w1 wa wb : World} {GB c c2 : Nat} {P : Array Value} {A A2 : Option Addr} {xs ys : List UInt8}
theorem RB.drawn (h : RB w1 GB P A c xs wa) (hd : Drawn wa wb) : RB w1 GB P A c xs wb := ⟨h.own.drawn hd, h.box.below (hd.below wa.heap.size) h.box.lt, h.bel.trans (hd.below _)⟩
theorem RB.drew (h : RB w1 GB P A c xs wa) : RB w1 GB P A c xs wa.drew := h.drawn ⟨1, rfl⟩
theorem RB.below (h : RB w1 GB P A c xs wa) (hb : Below wa.heap.size wa wb) : RB w1 GB P A c xs wb := ⟨h.own.keep hb, h.box.below hb h.box.lt, h.bel.trans (hb.mono h.bel.size)⟩
theorem RB.app (h : RB w1 GB P A c xs wa) (hGB : GB < w1.heap.size) (ho : Own wb w1.heap.size A2 c2 ys) (hg : wa.grownBy wb (Value.slice A xs.length c).ownBlock) : RB w1 GB P A2 c2 ys wb :=
  ⟨ho, (hg.block GB h.box.lt (fun e => absurd (ownBlock_lt h.own GB e.symm).1 (by omega))).trans h.box, h.bel.grown hg h.bel.size (fun k hk => (ownBlock_lt h.own k hk).1)⟩
theorem RB.new (h : Blk wa GB 32 P) (hb : Below w1.heap.size w1 wa) (ho : Own wb wa.heap.size A c xs) (hb2 : Below wa.heap.size wa wb) : RB w1 GB P A c xs wb :=
  ⟨ho.base hb.size, h.below hb2 h.lt, hb.trans (hb2.mono hb.size)⟩
end

/-- The slot holds the bytes. -/
def RBS (w1 : World) (GB : Nat) (P : Array Value) (xs : List UInt8) (s8 : Value) (wx : World) : Prop := ∃ A c, s8 = .slice A xs.length c ∧ RB w1 GB P A c xs wx
abbrev ZZ : Obj := .cells #[.int .u8 0, .int .u8 0] 5
theorem sl_zz (W : World) : Sl (W.alloc ZZ) (some ⟨W.heap.size, 0, none⟩) 2 [0, 0] := ⟨bs_lit W [0, 0], by simp, by omega, by simp⟩
section
variable {w1 wa wb : World} {GB c c2 : Nat} {P : Array Value} {A A2 : Option Addr} {xs ys : List UInt8}
theorem rb_cell {i : Nat} {v : Value} (h : RB w1 GB P A c xs wa) (e : P[i]? = some v) : wa.cell? ⟨GB, i, none⟩ = some v := h.box.cell2 e
theorem rb_al {o : Obj} (h : RB w1 GB P A c xs wa) : RB w1 GB P A c xs (wa.alloc o) := h.below ((Below.refl _ _).alloc (Nat.le_refl _) _)
theorem sl_al {o : Obj} (h : Sl wa A c xs) : Sl (wa.alloc o) A c xs := h.below ((Below.refl _ _).alloc (Nat.le_refl _) _)
theorem sl_24 (W : World) : Sl (W.alloc (.cells #[.int .u8 2, .int .u8 4] 5)).drew (some ⟨W.heap.size, 0, none⟩) 2 [2, 4] := (show Sl (W.alloc (.cells #[.int .u8 2, .int .u8 4] 5)) (some ⟨W.heap.size, 0, none⟩) 2 [2, 4] from ⟨bs_lit W [2, 4], by simp, by omega, by simp⟩).drawn ⟨1, rfl⟩
theorem reffold_n (tt : Nat) (h : tt ≤ 65535) (w : World) : Calls Try.prog 29 #[.int .u32 (tt : Int)] w fun e w' => e = .returned (.int .u16 ((65535 - tt : Nat) : Int)) ∧ w = w' :=
  (reffold_any (tt : Int) (by omega) (by omega) w).mono fun _ _ h' => ⟨by rw [h'.1, Int.toNat_natCast, rnd_small h], h'.2⟩
theorem rb_p0 (h : RB w1 GB P A c xs wa) (hb : Below wa.drew.heap.size wa.drew wb) : RB w1 GB P A c xs wb := h.drew.below hb
theorem rb_p1 (h : RB w1 GB P A c xs wa) (hb : Below (wa.alloc ZZ).drew.heap.size (wa.alloc ZZ).drew wb) : RB w1 GB P A c xs wb ∧ Sl wb (some ⟨wa.heap.size, 0, none⟩) 2 [0, 0] :=
  ⟨(rb_al h).drew.below hb, ((sl_zz wa).drawn ⟨1, rfl⟩).below hb⟩
theorem rb_ne (h : RB w1 GB P A c xs wa) : (Value.slice A xs.length c).ownBlock ≠ some wa.heap.size := fun e => absurd (ownBlock_lt h.own _ e).2 (Nat.lt_irrefl _)
theorem sl_grown {g : Nat} {A' : Option Addr} {n' c' : Nat} (h : Sl wa (some ⟨g, 0, none⟩) c xs) (hg : wa.grownBy wb (Value.slice A' n' c').ownBlock) (hne : (Value.slice A' n' c').ownBlock ≠ some g) : Sl wb (some ⟨g, 0, none⟩) c xs := by
  refine ⟨?_, h.2⟩
  by_cases hz : xs = []
  · exact .inl hz
  · obtain ⟨b, off, e, hc⟩ := h.1.at_ (List.length_pos_iff.2 hz)
    injection e with e
    injection e with e1 e2
    subst e1 e2
    refine .inr ⟨g, 0, rfl, fun i hi => ?_⟩
    have hlt := World.block_lt_of_cell? wa _ (hc i hi)
    rw [hg.cell_far _ hlt (fun e => hne e.symm)]
    exact hc i hi
end

set_option maxHeartbeats 8000000 in
set_option maxRecDepth 100000 in
theorem refbuild_good0 (f t fr to_ sq ak fl wi ur gr : Int) (D : Option Addr) (data : List UInt8) (n c : Nat) (w : World) (hn : data.length = n) (hs : Sl w D c data) (h : fitsP ⟨fr, to_, sq, ak, fl, wi, ur, gr⟩) (hl : (n : Int) ≤ 65495) (f0 : 0 ≤ f) (f1 : f < 4294967296) (t0 : 0 ≤ t) (t1 : t < 4294967296) (s0 : 0 ≤ sq) (s1 : sq < 4294967296) (k0 : 0 ≤ ak) (k1 : ak < 4294967296) (gz : ¬ (0 : Int) < gr) :
    Calls Try.prog 10 #[.int .u32 f, .int .u32 t, .agg (segV fr to_ sq ak fl wi ur gr D n c)] w (SBuilt f t ⟨fr, to_, sq, ak, fl, wi, ur, gr⟩ data w) := by
  have hb : Below w.heap.size w (w.alloc (.cells (segV fr to_ sq ak fl wi ur gr D n c) 32)) := (Below.refl _ _).alloc (Nat.le_refl _) _
  have hbx := blk_new w 32 (segV fr to_ sq ak fl wi ur gr D n c)
  have e1 : segE ⟨fr, to_, sq, ak, fl, wi, ur, gr⟩ data.length = 0 := by rw [segE, if_pos h, if_pos (by omega)]
  have e2 : segR f t ⟨fr, to_, sq, ak, fl, wi, ur, gr⟩ data = segB f t ⟨fr, to_, sq, ak, fl, wi, ur, gr⟩ data := by rw [segR, if_pos ⟨h, by omega⟩]
  have E1 := Lib.hid e1
  have E2 := Lib.hid e2
  have HB := Lib.hid hb
  have HX := Lib.hid hbx
  have HS := Lib.hid (hs.below hb)
  have HN := Lib.hid hn
  obtain ⟨R0, R1, R2, R3, R4, l0, l1⟩ := h
  have RA : ∀ n, r16 n → Hid (∀ w, Calls Try.prog 26 #[.int .i64 n] w fun e w' => e = .returned (.bool true) ∧ w = w') := fun n hr w => by
    have := room_any n w
    rw [decide_eq_true hr] at this
    exact this
  have Q0 := RA _ R0
  have Q1 := RA _ R1
  have Q2 := RA _ R2
  have Q3 := RA _ R3
  have Q4 := RA _ R4
  simp only [r16] at R0 R1 R2 R3 R4
  obtain ⟨a0, a1⟩ := R0
  obtain ⟨b0, b1⟩ := R1
  obtain ⟨c0, c1⟩ := R2
  obtain ⟨d0, d1⟩ := R3
  obtain ⟨g0, g1⟩ := R4
  have hl2 : ¬ (65495 : Int) < n := by omega
  have l2 : ¬ (63 : Int) < fl := by simp only at l1; omega
  have l3 : ¬ fl < (0 : Int) := by simp only at l0; omega
  clear e1 e2 hb hn hbx hs RA
  simp only at l0 l1 a0 a1 b0 b1 c0 c1 d0 d1 g0 g1
  go_enter Try.func10, Try.ntmps10
  go_upto_region 1 with fail
  have hG1 : w.heap.size < (w.alloc (.cells (segV fr to_ sq ak fl wi ur gr D n c) 32)).heap.size := by simp
  generalize w.alloc (.cells (segV fr to_ sq ak fl wi ur gr D n c) 32) = w1 at *
  obtain ⟨x0, x1, x2, x3, x4, x5, x6, x7, x8⟩ := HX.out.cells9
  go_upto_region 5 with (go_at_call 26; first | ((with_reducible refine (Q0.out _).mono ?_); rintro e w' ⟨rfl, rfl⟩) | ((with_reducible refine (Q1.out _).mono ?_); rintro e w' ⟨rfl, rfl⟩) | ((with_reducible refine (Q2.out _).mono ?_); rintro e w' ⟨rfl, rfl⟩) | ((with_reducible refine (Q3.out _).mono ?_); rintro e w' ⟨rfl, rfl⟩) | ((with_reducible refine (Q4.out _).mono ?_); rintro e w' ⟨rfl, rfl⟩))
  clear Q0 Q1 Q2 Q3 Q4 x0 x1 x2 x3 x4 x5 x6 x7 x8
  obtain ⟨GB, EGB⟩ : ∃ GB, Hid (w.heap.size = GB) := ⟨_, rfl⟩
  rw [EGB.out] at hG1 ⊢
  have HXG : Hid (Blk w1 GB 32 (segV fr to_ sq ak fl wi ur gr D n c)) := by rw [← EGB.out]; exact HX.out
  clear HX
  have P0 : Hid ((segV fr to_ sq ak fl wi ur gr D n c)[0]? = some (.int .i64 fr)) := rfl
  have P1 : Hid ((segV fr to_ sq ak fl wi ur gr D n c)[1]? = some (.int .i64 to_)) := rfl
  have P2 : Hid ((segV fr to_ sq ak fl wi ur gr D n c)[2]? = some (.int .u32 sq)) := rfl
  have P3 : Hid ((segV fr to_ sq ak fl wi ur gr D n c)[3]? = some (.int .u32 ak)) := rfl
  have P4 : Hid ((segV fr to_ sq ak fl wi ur gr D n c)[4]? = some (.int .i64 fl)) := rfl
  have P5 : Hid ((segV fr to_ sq ak fl wi ur gr D n c)[5]? = some (.int .i64 wi)) := rfl
  have P6 : Hid ((segV fr to_ sq ak fl wi ur gr D n c)[6]? = some (.int .i64 ur)) := rfl
  have P7 : Hid ((segV fr to_ sq ak fl wi ur gr D n c)[7]? = some (.int .i64 gr)) := rfl
  have P8 : Hid ((segV fr to_ sq ak fl wi ur gr D n c)[8]? = some (.slice D n c)) := rfl
  have T0 := Lib.hid (fun w => two_any fr w a0 (by omega))
  have T1 := Lib.hid (fun w => two_any to_ w b0 (by omega))
  go_region_held3 (fun w' => w'.cell? ⟨GB, 0, none⟩ = some (.int .i64 fr) ∧ w'.cell? ⟨GB, 1, none⟩ = some (.int .i64 to_))
    ((refine ⟨?_, ?_⟩
      · first | (with_reducible assumption) | (with_reducible refine cell_alloc_old ?_; with_reducible assumption) | (with_reducible exact rb_cell stC P0.out) | (with_reducible exact rb_cell stB P0.out) | (with_reducible exact rb_cell stA P0.out) | (exact HXG.out.cell 0)
      · first | (with_reducible assumption) | (with_reducible refine cell_alloc_old ?_; with_reducible assumption) | (with_reducible exact rb_cell stC P1.out) | (with_reducible exact rb_cell stB P1.out) | (with_reducible exact rb_cell stA P1.out) | (exact HXG.out.cell 1)))
    (first
      | (go_at_call 27
         first
         | ((with_reducible refine (T0.out _).mono ?_)
            rintro e wa ⟨X0, y0, rfl, ho0, hb0⟩
            have stA : RB w1 GB (segV fr to_ sq ak fl wi ur gr D n c) X0 y0 (two8 fr) wa := RB.new (w1 := w1) (wa := w1.drew) HXG.out ((Below.refl _ _).trans (Drawn.below ⟨1, rfl⟩ _)) ho0 hb0
            clear ho0 hb0)
         | ((with_reducible refine (T1.out _).mono ?_)
            rintro e wb ⟨X1, y1, rfl, ho1, hb1⟩
            have stB := stA.below hb1
            have sB := ho1.sl
            clear ho1 hb1))
      | (refine step_appn _ (by rfl) _ _ (by rfl) w1.heap.size X0 y0 (two8 fr) 2 rfl (by rfl) stB.own X1 y1 (two8 to_) 2 rfl (by rfl) sB (by simp [two8_length]) (by exact stB.bel.size) ?_
         intro A2 c2 wc hoA hgA
         have stC := stB.app hG1 hoA hgA))
  clear stA stB sB hoA hgA T0 T1
  have hst := stC
  clear stC
  obtain ⟨hd1, HE1⟩ : ∃ y, Hid (two8 fr ++ two8 to_ = y) := ⟨_, rfl⟩
  have HL1 : Hid (hd1.length = 4) := by rw [← HE1.out]; rfl
  rw [HE1.out] at hst
  have T0 := Lib.hid (fun w => four_any sq w s0 s1)
  have T1 := Lib.hid (fun w => four_any ak w k0 k1)
  go_wp2_with fail
  go_region_held3 (fun w' => w'.cell? ⟨GB, 2, none⟩ = some (.int .u32 sq) ∧ w'.cell? ⟨GB, 3, none⟩ = some (.int .u32 ak))
    ((refine ⟨?_, ?_⟩
      · first | (with_reducible assumption) | (with_reducible refine cell_alloc_old ?_; with_reducible assumption) | (with_reducible exact rb_cell stD P2.out) | (with_reducible exact rb_cell stC P2.out) | (with_reducible exact rb_cell stB P2.out) | (with_reducible exact rb_cell stA P2.out) | (with_reducible exact rb_cell hst P2.out) | (with_reducible exact rb_cell hst.drew P2.out)
      · first | (with_reducible assumption) | (with_reducible refine cell_alloc_old ?_; with_reducible assumption) | (with_reducible exact rb_cell stD P3.out) | (with_reducible exact rb_cell stC P3.out) | (with_reducible exact rb_cell stB P3.out) | (with_reducible exact rb_cell stA P3.out) | (with_reducible exact rb_cell hst P3.out) | (with_reducible exact rb_cell hst.drew P3.out)))
    (first
      | (go_at_call 28
         first
         | ((with_reducible refine (T0.out _).mono ?_)
            rintro e wa ⟨X0, y0, rfl, ho0, hb0⟩
            have stA := hst.drew.below hb0
            have sA := ho0.sl
            clear ho0 hb0)
         | ((with_reducible refine (T1.out _).mono ?_)
            rintro e wd ⟨X1, y1, rfl, ho1, hb1⟩
            have stC := stB.below hb1
            have sC := ho1.sl
            clear ho1 hb1))
      | (refine step_appn _ (by rfl) _ _ (by rfl) w1.heap.size A2 c2 hd1 4 HL1.out (by rfl) stA.own X0 y0 (four8 sq) 4 rfl (by rfl) sA (by rw [HL1.out]; simp [four8_length]) (by exact stA.bel.size) ?_
         intro A3 c3 wb hoA hgA
         have stB := stA.app hG1 hoA hgA)
      | (refine step_appn _ (by rfl) _ _ (by rfl) w1.heap.size A3 c3 (hd1 ++ four8 sq) 8 (by rw [List.length_append, HL1.out]; rfl) (by rfl) stC.own X1 y1 (four8 ak) 4 rfl (by rfl) sC (by rw [List.length_append, HL1.out]; simp [four8_length]) (by exact stC.bel.size) ?_
         intro A4 c4 we hoB hgB
         have stD := stC.app hG1 hoB hgB))
  clear stA stB sA stC sC hoA hgA hoB hgB T0 T1
  have hst := stD
  clear stD
  obtain ⟨hd2, HE2⟩ : ∃ y, Hid (hd1 ++ four8 sq ++ four8 ak = y) := ⟨_, rfl⟩
  have HL2 : Hid (hd2.length = 12) := by show _ = _; rw [← HE2.out]; simp [HL1.out, four8_length]
  rw [HE2.out] at hst
  have x7 := rb_cell hst P7.out
  have x4 := rb_cell hst P4.out
  have HST := Lib.hid hst
  have ha : Below we.heap.size we (we.alloc (.cells #[.int .u8 80, .int .u8 fl] 5)) := (Below.refl _ _).alloc (Nat.le_refl _) _
  have HA := Lib.hid ha
  have SW := Lib.hid (sl_two we 80 fl (by omega) (by omega) (by omega) (by omega))
  clear hst ha
  go_upto_region 11 with (at_builtin; refine app_n _ rfl _ _ rfl w1.heap.size A4 c4 hd2 12 HL2.out rfl (HST.out.own.keep HA.out) (some ⟨we.heap.size, 0, none⟩) 2 [u8 80, u8 fl] 2 rfl rfl SW.out (by rw [HL2.out]; simp) (by exact (HST.out.below HA.out).bel.size) ?_; intro A5 c5 wf hown hg)
  have hst := (HST.out.below HA.out).app hG1 hown hg
  clear hown hg HST HA SW x4 x7
  obtain ⟨hd3, HE3⟩ : ∃ y, Hid (hd2 ++ [u8 80, u8 fl] = y) := ⟨_, rfl⟩
  have HL3 : Hid (hd3.length = 14) := by show _ = _; rw [← HE3.out]; simp [HL2.out]
  rw [HE3.out] at hst
  have T0 := Lib.hid (fun w => two_any wi w c0 (by omega))
  have T1 := Lib.hid (fun w => two_any ur w d0 (by omega))
  go_cut [8] (fun s8 wx => RBS w1 GB (segV fr to_ sq ak fl wi ur gr D n c) (hd3 ++ two8 wi ++ [0, 0] ++ two8 ur) s8 wx)
  case first =>
    go_region_held3 (fun w' => w'.cell? ⟨GB, 5, none⟩ = some (.int .i64 wi) ∧ w'.cell? ⟨GB, 6, none⟩ = some (.int .i64 ur))
      ((refine ⟨?_, ?_⟩
        · first | (with_reducible assumption) | (with_reducible refine cell_alloc_old ?_; with_reducible assumption) | (with_reducible exact rb_cell stE P5.out) | (with_reducible exact rb_cell stD P5.out) | (with_reducible exact rb_cell stC P5.out) | (with_reducible exact rb_cell stB P5.out) | (with_reducible exact rb_cell stA P5.out) | (with_reducible exact rb_cell hst P5.out) | (with_reducible exact rb_cell hst.drew P5.out) | (with_reducible exact rb_cell (rb_al stB) P5.out) | (with_reducible exact rb_cell (rb_al stA) P5.out) | (with_reducible exact rb_cell (rb_al hst) P5.out) | (with_reducible exact rb_cell (rb_al hst).drew P5.out)
        · first | (with_reducible assumption) | (with_reducible refine cell_alloc_old ?_; with_reducible assumption) | (with_reducible exact rb_cell stE P6.out) | (with_reducible exact rb_cell stD P6.out) | (with_reducible exact rb_cell stC P6.out) | (with_reducible exact rb_cell stB P6.out) | (with_reducible exact rb_cell stA P6.out) | (with_reducible exact rb_cell hst P6.out) | (with_reducible exact rb_cell hst.drew P6.out) | (with_reducible exact rb_cell (rb_al stB) P6.out) | (with_reducible exact rb_cell (rb_al stA) P6.out) | (with_reducible exact rb_cell (rb_al hst) P6.out) | (with_reducible exact rb_cell (rb_al hst).drew P6.out)))
      (first
        | (go_at_call 27
           first
           | ((with_reducible refine (T0.out _).mono ?_)
              rintro e wa ⟨X0, y0, rfl, ho0, hb0⟩
              first
              | (with_reducible have stA := rb_p0 hst hb0)
              | ((with_reducible have stA := (rb_p1 hst hb0).1); (with_reducible have sZ := (rb_p1 hst hb0).2))
              have oA := ho0
              have sA := ho0.sl
              clear ho0)
           | ((with_reducible refine (T1.out _).mono ?_)
              rintro e wd ⟨X1, y1, rfl, ho1, hb1⟩
              have stD := stC.below hb1
              have sD := ho1.sl
              clear ho1 hb1))
        | (refine step_appn _ (by rfl) _ _ (by rfl) w1.heap.size A5 c5 hd3 14 HL3.out (by rfl) stA.own X0 y0 (two8 wi) 2 rfl (by rfl) sA (by rw [HL3.out]; simp [two8_length]) (by exact stA.bel.size) ?_
           intro A6 c6 wb hoA hgA
           have stB := stA.app hG1 hoA hgA
           try (have sZB := sl_grown sZ hgA (rb_ne hst))
           clear hoA)
        | (refine step_appn _ (by rfl) _ _ (by rfl) w1.heap.size A5 c5 hd3 14 HL3.out (by rfl) (rb_al stA).own X0 y0 (two8 wi) 2 rfl (by rfl) (sl_al sA) (by rw [HL3.out]; simp [two8_length]) (by exact (rb_al stA).bel.size) ?_
           intro A6 c6 wb hoA hgA
           have stB := (rb_al stA).app hG1 hoA hgA
           have sZB := sl_grown (sl_zz _) hgA (rb_ne stA)
           clear hoA)
        | (refine step_appn _ (by rfl) _ _ (by rfl) w1.heap.size A6 c6 (hd3 ++ two8 wi) 16 (by rw [List.length_append, HL3.out]; rfl) (by rfl) stB.own _ 2 [0, 0] 2 rfl (by rfl) sZB (by rw [List.length_append, HL3.out]; simp [two8_length]) (by exact stB.bel.size) ?_
           intro A7 c7 wc hoB hgB
           have stC := stB.app hG1 hoB hgB
           clear hoB hgB)
        | (refine step_appn _ (by rfl) _ _ (by rfl) w1.heap.size A6 c6 (hd3 ++ two8 wi) 16 (by rw [List.length_append, HL3.out]; rfl) (by rfl) (rb_al stB).own _ 2 [0, 0] 2 rfl (by rfl) (sl_zz _) (by rw [List.length_append, HL3.out]; simp [two8_length]) (by exact (rb_al stB).bel.size) ?_
           intro A7 c7 wc hoB hgB
           have stC := (rb_al stB).app hG1 hoB hgB
           clear hoB hgB)
        | (refine step_appn _ (by rfl) _ _ (by rfl) w1.heap.size A7 c7 (hd3 ++ two8 wi ++ [0, 0]) 18 (by rw [List.length_append, List.length_append, HL3.out]; rfl) (by rfl) stD.own X1 y1 (two8 ur) 2 rfl (by rfl) sD (by rw [List.length_append, List.length_append, HL3.out]; simp [two8_length]) (by exact stD.bel.size) ?_
           intro A8 c8 we2 hoC hgC
           have stE := stD.app hG1 hoC hgC))
    all_goals
      have HF : Hid (RBS w1 GB (segV fr to_ sq ak fl wi ur gr D n c) (hd3 ++ two8 wi ++ [0, 0] ++ two8 ur) (.slice A8 20 c8) we2) := ⟨A8, c8, by rw [List.length_append, List.length_append, List.length_append, HL3.out]; rfl, stE⟩
      clear stA stB stC stD stE
      go_wp2_with fail
      go_meet
      exact HF.out
  case rest =>
    obtain ⟨A8, c8, rfl, hst⟩ := hcut
    obtain ⟨hd4, HE4⟩ : ∃ y : List UInt8, Hid (hd3 ++ two8 wi ++ [0, 0] ++ two8 ur = y) := ⟨hd3 ++ two8 wi ++ [0, 0] ++ two8 ur, rfl⟩
    have HL4 : Hid (hd4.length = 20) := by show _ = _; rw [← HE4.out]; simp [HL3.out, two8_length]
    rw [HE4.out] at hst ⊢
    rw [HL4.out]
    clear T0 T1
    have x7 := rb_cell hst P7.out
    have x8 := rb_cell hst P8.out
    have HST := Lib.hid hst
    clear hst
    go_upto_region 15 with (at_builtin; refine app_n _ rfl _ _ rfl w1.heap.size A8 c8 hd4 20 HL4.out rfl HST.out.own D c data n HN.out rfl (HS.out.below HST.out.bel) (by rw [HL4.out, HN.out]; omega) (by exact HST.out.bel.size) ?_; intro A9 c9 wk hown hg)
    have hst := HST.out.app hG1 hown hg
    obtain ⟨g9, rfl, hg9a, hg9b⟩ := hown.form (by rw [List.length_append, HL4.out]; omega)
    clear hown hg HST x8
    obtain ⟨hd5, HE5⟩ : ∃ y, Hid (hd4 ++ data = y) := ⟨_, rfl⟩
    obtain ⟨L, EL⟩ : ∃ L, Hid (20 + n = L) := ⟨_, rfl⟩
    have HL5 : Hid (hd5.length = L) := by show _ = _; rw [← HE5.out, List.length_append, HL4.out, HN.out, EL.out]
    rw [HE5.out] at hst
    rw [EL.out]
    have hL70 : (L : Int) ≤ 70000 := by rw [← EL.out]; omega
    have hL20 : (20 : Int) ≤ (L : Int) := by rw [← EL.out]; omega
    obtain ⟨tt, ET⟩ : ∃ tt, Hid (totalN f t hd5 = tt) := ⟨_, rfl⟩
    have htt : tt ≤ 65535 := by rw [← ET.out]; exact rnd_le _
    obtain ⟨pp, EP⟩ : ∃ pp : Nat, Hid (pseudo f t 6 (L : Int) = pp) := ⟨_, rfl⟩
    have hpp : pp ≤ 65535 := by rw [← EP.out]; exact rnd_le _
    have ETP : Hid (rnd (pp + words hd5) = tt) := by show _ = _; rw [← ET.out, totalN, HL5.out, EP.out]
    obtain ⟨z, EZ⟩ : ∃ z : Int, Hid (((65535 - tt : Nat) : Int) = z) := ⟨_, rfl⟩
    have z0 : 0 ≤ z := by rw [← EZ.out]; omega
    have z1 : z < 65536 := by rw [← EZ.out]; omega
    have wz : IntKind.i64.wrap z = z := IntWalk.i64_in _ (by omega)
    have PA := Lib.hid (fun w => refpseudo_any f t (L : Int) w f0 f1 t0 t1 (by omega) hL70)
    rw [EP.out] at PA
    have AA := Lib.hid (fun (w : World) (hb : Bs w (some ⟨g9, 0, none⟩) hd5) => refadd_n (pp : Int) (by omega) (by omega) _ hd5 L c9 w HL5.out hb (by rw [HL5.out]; omega))
    rw [Int.toNat_natCast, ETP.out] at AA
    have FA := Lib.hid (fun w => reffold_n tt htt w)
    rw [EZ.out] at FA
    have TA := Lib.hid (fun w => two_any z w z0 (by omega))
    go_wp2_with fail
    refine (PA.out _).mono ?_
    rintro e w6 ⟨rfl, hb6⟩
    replace hst := hst.below hb6
    clear hb6
    go_wp2_with fail
    refine (AA.out _ (by exact hst.own.bs)).mono ?_
    rintro e w7 ⟨rfl, rfl⟩
    go_wp2_with fail
    refine (FA.out _).mono ?_
    rintro e w7 ⟨rfl, rfl⟩
    go_wp2_with fail
    refine (TA.out _).mono ?_
    rintro e w8 ⟨Q, q, rfl, hoq, hbq⟩
    have hrow : Row 5 w8 w1.heap.size (some ⟨g9, 0, none⟩) c9 hd5 := (hst.below hbq).own.row
    have HB8 := Lib.hid (hst.below hbq)
    obtain ⟨gq, rfl, hgq1, hgq2⟩ := hoq.form (by rw [two8_length]; omega)
    have y0 := hoq.cell 0 (by rw [two8_length]; omega)
    have y1 := hoq.cell 1 (by rw [two8_length]; omega)
    rw [show (two8 z).getD 0 0 = u8 (z / 256 % 256) from rfl, u8_toNat _ (by omega) (by omega)] at y0
    rw [show (two8 z).getD 1 0 = u8 (z % 256) from rfl, u8_toNat _ (by omega) (by omega)] at y1
    have o16 := hrow.cell 16 (by rw [HL5.out]; omega)
    have o17 := hrow.cell 17 (by rw [HL5.out]; omega)
    have q16 := hrow.free 16
    have q17 := hrow.free 17
    have nq : g9 ≠ gq := by have := hst.own.row.lt; omega
    have nq' : gq ≠ g9 := by omega
    have i16 : (16 : Int) < (L : Int) := by omega
    have i17 : (17 : Int) < (L : Int) := by omega
    have HR2 := Lib.hid ((hrow.set 16 (z / 256 % 256) (by omega) (by omega)).set 17 (z % 256) (by omega) (by omega))
    have HG2 := Lib.hid ((grown_set (w := w8) g9 16 (.int .u8 (z / 256 % 256))).trans (grown_set g9 17 (.int .u8 (z % 256))))
    have hg9 := hrow.lt
    clear hst hoq hbq hrow PA AA FA TA wz
    go_wp2_with fail
    go_region
    have HEQ : Hid ((hd5.set 16 (u8 (z / 256 % 256))).set (16 + 1) (u8 (z % 256)) = segB f t ⟨fr, to_, sq, ak, fl, wi, ur, gr⟩ data) := by
      show put2 hd5 16 z = _
      have gz0 : gr = 0 := by omega
      have e4 : hd4 = headB ⟨fr, to_, sq, ak, fl, wi, ur, gr⟩ [0, 0] := by
        rw [← HE4.out, ← HE3.out, ← HE2.out, ← HE1.out]
        show _ = headB _ _
        simp only [headB, words4, if_pos gz0, List.append_assoc]
      have e5 : hd5 = seg0 ⟨fr, to_, sq, ak, fl, wi, ur, gr⟩ data := by
        rw [← HE5.out, e4]
        simp only [seg0, optsB, if_pos gz0, List.append_nil]
      have es : sumSeg f t ⟨fr, to_, sq, ak, fl, wi, ur, gr⟩ data = 65535 - tt := by rw [sumSeg, ← e5, ET.out]
      have q0 : (((65535 - tt : Nat) : Int) / 256 % 256) = (((65535 - tt) / 256 : Nat) : Int) := by omega
      have q1 : (((65535 - tt : Nat) : Int) % 256) = (((65535 - tt) % 256 : Nat) : Int) := by omega
      rw [segB, es, ← e5, put2, ← EZ.out, q0, q1]
    have FIN : Hid (SBuilt f t ⟨fr, to_, sq, ak, fl, wi, ur, gr⟩ data w (.returned (.tuple #[.slice (some ⟨g9, 0, none⟩) L c9, .int .i64 0])) ((w8.setCell ⟨g9, 16, none⟩ (.int .u8 (z / 256 % 256))).setCell ⟨g9, 17, none⟩ (.int .u8 (z % 256))).drew) := by
      refine ⟨some ⟨g9, 0, none⟩, c9, ?_, ?_, ?_⟩
      · rw [E1.out, E2.out, ← HEQ.out, List.length_set, List.length_set, HL5.out]
      · rw [E2.out, ← HEQ.out]
        exact (HR2.out.own.base HB.out.size).drawn ⟨1, rfl⟩
      · exact below_drewN (HB.out.trans ((below_grown HB8.out.bel HG2.out (Nat.le_refl _) hg9.1).mono HB.out.size)) 1
    clear o16 o17 q16 q17 y0 y1
    go_wp2_with fail
    go_ret2
    exact FIN.out
end Go.Proofs.Ytpnfdnnfhmecjaa
