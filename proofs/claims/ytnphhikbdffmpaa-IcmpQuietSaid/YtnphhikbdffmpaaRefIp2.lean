/-
  The walk of the reference's Build of packets.
-/
import Derived.Test.YtnphhikbdffmpaaRefIp
namespace Go.Proofs.Ytnphhikbdffmpaa
open Go.RowKit
set_option linter.unusedVariables false

theorem refof_n' (A : Option Addr) (bs : List UInt8) (n c : Nat) (w : World) (hn : bs.length = n) (hb : Bs w A bs) (hl : bs.length ≤ 9223372036854775800) :
    Calls Try.prog 25 #[.slice A n c] w fun e w' => e = .returned (.int .u16 (65535 - rnd (words bs) : Nat)) ∧ w = w' := by
  subst hn
  exact refof_any A bs c w hb hl
theorem ripbuild_arg (id at_ life kind : Int) (wh mo : Bool) (f t : Int) (D : Option Addr) (n c : Nat) (w : World) (h : ¬ rightP id at_ life kind) :
    Calls Try.prog 31 #[.agg (packet id at_ life kind wh mo f t D n c)] w fun e w' => e = .returned (.tuple #[.slice none 0 0, .int .i64 2]) ∧ Below w.heap.size w w' := by
  have hb : Below w.heap.size w (w.alloc (.cells (packet id at_ life kind wh mo f t D n c) 45)) := (Below.refl _ _).alloc (Nat.le_refl _) _
  have H := Lib.hid h
  clear h
  go_enter Try.func31, Try.ntmps31
  go_wp2_with fail
  refine (rright_any id at_ life kind wh mo f t D n c _).mono ?_
  rw [decide_eq_false H.out]
  rintro e w' ⟨rfl, hb2⟩
  go_wp2_with fail
  go_ret2
  exact ⟨rfl, hb.trans (hb2.mono hb.size)⟩
theorem ripbuild_long (id at_ life kind : Int) (wh mo : Bool) (f t : Int) (D : Option Addr) (n c : Nat) (w : World) (h : rightP id at_ life kind) (hn : (65515 : Int) < n) :
    Calls Try.prog 31 #[.agg (packet id at_ life kind wh mo f t D n c)] w fun e w' => e = .returned (.tuple #[.slice none 0 0, .int .i64 3]) ∧ Below w.heap.size w w' := by
  have hb : Below w.heap.size w (w.alloc (.cells (packet id at_ life kind wh mo f t D n c) 45)) := (Below.refl _ _).alloc (Nat.le_refl _) _
  have hbx := blk_new w 45 (packet id at_ life kind wh mo f t D n c)
  have H := Lib.hid h
  clear h
  go_enter Try.func31, Try.ntmps31
  go_wp2_with fail
  generalize w.alloc (.cells (packet id at_ life kind wh mo f t D n c) 45) = w1 at *
  refine (rright_any id at_ life kind wh mo f t D n c _).mono ?_
  rw [decide_eq_true H.out]
  rintro e w' ⟨rfl, hb2⟩
  replace hbx := hbx.below hb2 hbx.lt
  obtain ⟨x0, x1, x2, x3, x4, x5, x6, x7, x8⟩ := hbx.cells9
  go_wp2_with fail
  go_ret2
  exact ⟨rfl, hb.trans (hb2.mono hb.size)⟩

theorem bs_lit69 (w : World) (B : Nat) (hB : B ≤ w.heap.size) : Own (w.alloc (.cells #[.int .u8 69, .int .u8 0] 5)) B (some ⟨w.heap.size, 0, none⟩) 2 [69, 0] :=
  row_of_blk (t := 5) (blk_new w 5 #[.int .u8 69, .int .u8 0]) hB rfl (by omega)
theorem own_lit4 (w : World) (life kind : Int) (l0 : 0 ≤ life) (l1 : life ≤ 255) (k0 : 0 ≤ kind) (k1 : kind ≤ 255) : Own (w.alloc (.cells #[.int .u8 life, .int .u8 kind, .int .u8 0, .int .u8 0] 5)) w.heap.size (some ⟨w.heap.size, 0, none⟩) 4 [u8 life, u8 kind, 0, 0] := by
  refine row_of_blk (t := 5) ?_ (Nat.le_refl _) rfl (by omega)
  have e0 := u8_toNat life l0 (by omega)
  have e1 := u8_toNat kind k0 (by omega)
  simp only [bval, List.map_cons, List.map_nil, e0, e1]
  exact blk_new w 5 #[.int .u8 life, .int .u8 kind, .int .u8 0, .int .u8 0]
/-- The reference's head is being laid. -/
structure RB (w1 : World) (GB : Nat) (P : Array Value) (A : Option Addr) (c : Nat) (hs : List UInt8) (w' : World) : Prop where
  own : Own w' w1.heap.size A c hs
  box : Blk w' GB 45 P
  bel : Below w1.heap.size w1 w'
section
variable {w1 wa wb : World} {GB : Nat} {P : Array Value} {A A2 : Option Addr} {c c2 : Nat} {hs ys : List UInt8}
theorem RB.below (h : RB w1 GB P A c hs wa) (hb : Below wa.heap.size wa wb) : RB w1 GB P A c hs wb := ⟨h.own.keep hb, h.box.below hb h.box.lt, h.bel.trans (hb.mono h.bel.size)⟩
theorem RB.drew (h : RB w1 GB P A c hs wa) : RB w1 GB P A c hs wa.drew := h.below (Drawn.below ⟨1, rfl⟩ _)
theorem RB.two10 {gh : Nat} {z : Int} (h : RB w1 GB P (some ⟨gh, 0, none⟩) c hs wa) (hn : GB ≠ gh) (hg : w1.heap.size ≤ gh) (z0 : 0 ≤ z) (z1 : z < 65536) : RB w1 GB P (some ⟨gh, 0, none⟩) c (put2 hs 10 z) (((wa.setCell ⟨gh, 10, none⟩ (.int .u8 (z / 256 % 256))).setCell ⟨gh, 11, none⟩ (.int .u8 (z % 256))).drew) := by
  refine RB.drew ⟨?_, ?_, ?_⟩
  · exact (Row.set (Row.set h.own.row 10 (z / 256 % 256) (by omega) (by omega)) 11 (z % 256) (by omega) (by omega)).own
  · exact (h.box.far (p := ⟨gh, 10, none⟩) hn _).far (p := ⟨gh, 11, none⟩) hn _
  · exact (h.bel.setCell (p := ⟨gh, 10, none⟩) hg _).setCell (p := ⟨gh, 11, none⟩) hg _
theorem RB.app (h : RB w1 GB P A c hs wa) (hGB : GB < w1.heap.size) (ho : Own wb w1.heap.size A2 c2 ys) (hg : wa.grownBy wb (Value.slice A hs.length c).ownBlock) : RB w1 GB P A2 c2 ys wb :=
  ⟨ho, (hg.block GB h.box.lt (fun e => by have := (ownBlock_lt h.own) GB e.symm; omega)).trans h.box, h.bel.grown hg h.bel.size (fun q hq => ((ownBlock_lt h.own) q hq).1)⟩
end
def hdrB (id at_ life kind : Int) (wh mo : Bool) (f t : Int) (n : Nat) : List UInt8 :=
  [69, 0] ++ two8 (20 + (n : Int)) ++ two8 id ++ two8 (flagsP at_ wh mo) ++ [u8 life, u8 kind, 0, 0] ++ four8 f ++ four8 t
theorem hdrB_eq (id at_ life kind : Int) (wh mo : Bool) (f t : Int) (n : Nat) (f0 : 0 ≤ f) (f1 : f < 4294967296) (t0 : 0 ≤ t) (t1 : t < 4294967296) : hdrB id at_ life kind wh mo f t n = hdr0 id at_ life kind wh mo f t n := by
  have e1 : f % 65536 / 256 % 256 = f / 256 % 256 := by omega
  have e2 : f % 65536 % 256 = f % 256 := by omega
  have e3 : t % 65536 / 256 % 256 = t / 256 % 256 := by omega
  have e4 : t % 65536 % 256 = t % 256 := by omega
  simp only [hdrB, hdr0, two8, four8, e1, e2, e3, e4, List.cons_append, List.nil_append]

theorem fin_ip {id at_ life kind : Int} {wh mo : Bool} {f t fl z : Int} {n : Nat} {bs h0 h1 h2 h3 h4 h5 h6 : List UInt8} (e : flagsP at_ wh mo = fl) (e0 : [69, 0] = h0) (e1 : h0 ++ two8 (20 + (n : Int)) = h1) (e2 : h1 ++ two8 id = h2) (e3 : h2 ++ two8 fl = h3)
    (e4 : h3 ++ [u8 life, u8 kind, 0, 0] = h4) (e5 : h4 ++ four8 f = h5) (e6 : h5 ++ four8 t = h6) (hn : bs.length = n) (hz : ((65535 - rnd (words h6) : Nat) : Int) = z) (f0 : 0 ≤ f) (f1 : f < 4294967296) (t0 : 0 ≤ t) (t1 : t < 4294967296) :
    put2 h6 10 z ++ bs = ipBytes id at_ life kind wh mo f t bs := by
  have e7 : h6 = hdr0 id at_ life kind wh mo f t n := by
    rw [← hdrB_eq id at_ life kind wh mo f t n f0 f1 t0 t1, ← e6, ← e5, ← e4, ← e3, ← e2, ← e1, ← e0, ← e]
    rfl
  rw [ipBytes, hn, hdr1, ← hz, e7]

set_option maxHeartbeats 8000000 in
set_option maxRecDepth 100000 in
theorem ripbuild_any (id at_ life kind : Int) (wh mo : Bool) (f t : Int) (D : Option Addr) (bs : List UInt8) (n c : Nat) (w : World) (hn : bs.length = n) (hs : Sl w D c bs) (h : rightP id at_ life kind) (hl : (n : Int) ≤ 65515) (f0 : 0 ≤ f) (f1 : f < 4294967296) (t0 : 0 ≤ t) (t1 : t < 4294967296) :
    Calls Try.prog 31 #[.agg (packet id at_ life kind wh mo f t D n c)] w fun e w' => ∃ X x, e = .returned (.tuple #[.slice X (20 + n) x, .int .i64 0]) ∧ Sl w' X x (ipBytes id at_ life kind wh mo f t bs) ∧ Below w.heap.size w w' := by
  have hb : Below w.heap.size w (w.alloc (.cells (packet id at_ life kind wh mo f t D n c) 45)) := (Below.refl _ _).alloc (Nat.le_refl _) _
  have hbx := blk_new w 45 (packet id at_ life kind wh mo f t D n c)
  have HS1 := Lib.hid (hs.below hb)
  have H := Lib.hid h
  obtain ⟨⟨a0, a1⟩, ⟨i0, i1⟩, ⟨l0, l1⟩, ⟨k0, k1⟩⟩ := h
  have HN := Lib.hid hn
  have HB0 := Lib.hid hb
  clear hn hs hb
  go_enter Try.func31, Try.ntmps31
  go_wp2_with fail
  have hG1 : w.heap.size < (w.alloc (.cells (packet id at_ life kind wh mo f t D n c) 45)).heap.size := by simp
  generalize w.alloc (.cells (packet id at_ life kind wh mo f t D n c) 45) = w1 at *
  refine (rright_any id at_ life kind wh mo f t D n c _).mono ?_
  rw [decide_eq_true H.out]
  rintro e w2 ⟨rfl, hb2⟩
  replace hbx := hbx.below hb2 hbx.lt
  have hlit := bs_lit69 w2 w1.heap.size hb2.size
  have hst : RB w1 w.heap.size (packet id at_ life kind wh mo f t D n c) (some ⟨w2.heap.size, 0, none⟩) 2 [69, 0] (w2.alloc (.cells #[.int .u8 69, .int .u8 0] 5)) := ⟨hlit, blk_old hbx _, hb2.alloc (Nat.le_trans hb2.size (Nat.le_refl _)) _⟩
  clear hlit hb2
  obtain ⟨x0, x1, x2, x3, x4, x5, x6, x7, x8⟩ := hbx.cells9
  obtain ⟨fl, EFL⟩ : ∃ z, Hid (flagsP at_ wh mo = z) := ⟨_, rfl⟩
  have fl0 : 0 ≤ fl := by rw [← EFL.out]; unfold flagsP; split <;> split <;> omega
  have fl1 : fl < 32768 := by rw [← EFL.out]; unfold flagsP; split <;> split <;> omega
  obtain ⟨z0, z1, z2, z3, z4, z5, z6, z7, z8⟩ := hst.box.cells9
  have HST := Lib.hid hst
  clear hst hbx
  cases wh <;> cases mo
  all_goals
    go_wp2_with fail
    clear x0 x1 x2 x3 x4 x5 x6 x7 x8 z0 z1 z2 z3 z4 z5 z6 z7 z8
    generalize w2.alloc (.cells #[.int .u8 69, .int .u8 0] 5) = w3 at *
    generalize w2.heap.size = G3 at *
    have hst := HST.out
    clear HST
    have l2 : Hid (∀ x, (two8 x).length = 2) := fun x => rfl
    have l4 : Hid (∀ x, (four8 x).length = 4) := fun x => rfl
    obtain ⟨h0, HH0⟩ : ∃ z : List UInt8, Hid ([69, 0] = z) := ⟨_, rfl⟩
    have HL0 : Hid (h0.length = 2) := by rw [← HH0.out]; rfl
    rw [HH0.out] at hst
    have efl : _ = fl := EFL.out
    simp only [flagsP, if_true, if_false, Bool.false_eq_true, Int.add_zero] at efl
    try rw [efl]
    clear efl
    refine (two_any (20 + (n : Int)) _ (by omega) (by omega)).mono ?_
    rintro e wa ⟨Xa, ya, rfl, hoa, hba⟩
    replace hst := hst.below hba
    have hsa := Lib.hid hoa.sl
    clear hoa hba
    rw [l2.out]
    have HST := Lib.hid hst
    try clear x0 x1 x2 x3 x4 x5 x6 x7 x8
    clear hst
    go_wp2_with (at_builtin; refine app_n _ rfl _ _ rfl w1.heap.size _ _ h0 2 HL0.out rfl HST.out.own Xa ya (two8 (20 + (n : Int))) 2 (l2.out _) rfl hsa.out (by rw [l2.out, HL0.out]; omega) HST.out.bel.size ?_; intro A5 c5 w5 ho5 hg5; clear hsa; have hst := HST.out.app hG1 ho5 hg5; clear ho5 hg5; obtain ⟨x0, x1, x2, x3, x4, x5, x6, x7, x8⟩ := hst.box.cells9; clear HST; obtain ⟨h1, HH1⟩ : ∃ z, Hid (h0 ++ two8 (20 + (n : Int)) = z) := ⟨_, rfl⟩; have HL1 : Hid (h1.length = 4) := (by show _ = _; rw [← HH1.out, List.length_append, HL0.out, l2.out]); rw [HH1.out] at hst)
    refine (two_any (id) _ (by omega) (by omega)).mono ?_
    rintro e wa ⟨Xa, ya, rfl, hoa, hba⟩
    replace hst := hst.below hba
    have hsa := Lib.hid hoa.sl
    clear hoa hba
    rw [l2.out]
    have HST := Lib.hid hst
    try clear x0 x1 x2 x3 x4 x5 x6 x7 x8
    clear hst
    go_wp2_with (at_builtin; refine app_n _ rfl _ _ rfl w1.heap.size _ _ h1 4 HL1.out rfl HST.out.own Xa ya (two8 (id)) 2 (l2.out _) rfl hsa.out (by rw [l2.out, HL1.out]; omega) HST.out.bel.size ?_; intro A5 c5 w5 ho5 hg5; clear hsa; have hst := HST.out.app hG1 ho5 hg5; clear ho5 hg5; obtain ⟨x0, x1, x2, x3, x4, x5, x6, x7, x8⟩ := hst.box.cells9; clear HST; obtain ⟨h2, HH2⟩ : ∃ z, Hid (h1 ++ two8 (id) = z) := ⟨_, rfl⟩; have HL2 : Hid (h2.length = 6) := (by show _ = _; rw [← HH2.out, List.length_append, HL1.out, l2.out]); rw [HH2.out] at hst)
    refine (two_any (fl) _ (by omega) (by omega)).mono ?_
    rintro e wa ⟨Xa, ya, rfl, hoa, hba⟩
    replace hst := hst.below hba
    have hsa := Lib.hid hoa.sl
    clear hoa hba
    rw [l2.out]
    have HST := Lib.hid hst
    try clear x0 x1 x2 x3 x4 x5 x6 x7 x8
    clear hst
    go_wp2_with (first | (at_builtin; refine app_n _ rfl _ _ rfl w1.heap.size _ _ h2 6 HL2.out rfl HST.out.own Xa ya (two8 (fl)) 2 (l2.out _) rfl hsa.out (by rw [l2.out, HL2.out]; omega) HST.out.bel.size ?_; intro A5 c5 w5 ho5 hg5; clear hsa; have hst := HST.out.app hG1 ho5 hg5; clear ho5 hg5; obtain ⟨x0, x1, x2, x3, x4, x5, x6, x7, x8⟩ := hst.box.cells9; clear HST; obtain ⟨h3, HH3⟩ : ∃ z, Hid (h2 ++ two8 (fl) = z) := ⟨_, rfl⟩; have HL3 : Hid (h3.length = 8) := (by show _ = _; rw [← HH3.out, List.length_append, HL2.out, l2.out]); rw [HH3.out] at hst; have HST := Lib.hid (hst.below ((Below.refl _ _).alloc (Nat.le_refl _) (.cells #[.int .u8 life, .int .u8 kind, .int .u8 0, .int .u8 0] 5))); have hlit := Lib.hid (own_lit4 w5 life kind l0 l1 k0 k1).sl; have hg5 := hst.bel.size; clear hst) | (at_builtin; refine app_n _ rfl _ _ rfl w1.heap.size _ _ h3 8 HL3.out rfl HST.out.own (some ⟨w5.heap.size, 0, none⟩) 4 [u8 life, u8 kind, 0, 0] 4 rfl rfl hlit.out (by rw [HL3.out]; simp) HST.out.bel.size ?_; intro A6 c6 w6 ho5 hg5; clear hlit; have hst := HST.out.app hG1 ho5 hg5; clear ho5 hg5; obtain ⟨x0, x1, x2, x3, x4, x5, x6, x7, x8⟩ := hst.box.cells9; clear HST; obtain ⟨h4, HH4⟩ : ∃ z, Hid (h3 ++ [u8 life, u8 kind, 0, 0] = z) := ⟨_, rfl⟩; have HL4 : Hid (h4.length = 12) := (by show _ = _; rw [← HH4.out, List.length_append, HL3.out]; rfl); rw [HH4.out] at hst))
    have HS := Lib.hid hst
    go_region_held3 (fun w' => w'.cell? ⟨w.heap.size, 6, none⟩ = some (.int .u32 f) ∧ w'.cell? ⟨w.heap.size, 7, none⟩ = some (.int .u32 t))
      ((refine ⟨?_, ?_⟩
        · first | (with_reducible assumption) | (exact hst4.box.cell 6) | (exact hst3.box.cell 6) | (exact hst2.box.cell 6) | (exact hst1.box.cell 6) | (exact hst.box.cell 6)
        · first | (with_reducible assumption) | (exact hst4.box.cell 7) | (exact hst3.box.cell 7) | (exact hst2.box.cell 7) | (exact hst1.box.cell 7) | (exact hst.box.cell 7)))
      (first
        | (refine step_app _ (by rfl) _ _ (by rfl) w1.heap.size _ _ h4 12 HL4.out (by rfl) hst1.own ⟨ga, 0, none⟩ ya (four8 f) 4 (l4.out _) (by rfl) hsa.out (by rw [l4.out, HL4.out]; omega) hst1.bel.size ?_
           intro A7 c7 w7 ho7 hg7
           have hst2 := hst1.app hG1 ho7 hg7
           clear ho7 hg7
           obtain ⟨h5, HH5⟩ : ∃ z, Hid (h4 ++ four8 f = z) := ⟨_, rfl⟩
           have HL5 : Hid (h5.length = 16) := by show _ = _; rw [← HH5.out, List.length_append, HL4.out, l4.out]
           rw [HH5.out] at hst2)
        | (refine step_app _ (by rfl) _ _ (by rfl) w1.heap.size _ _ h5 16 HL5.out (by rfl) hst3.own ⟨gb, 0, none⟩ yb (four8 t) 4 (l4.out _) (by rfl) hsb.out (by rw [l4.out, HL5.out]; omega) hst3.bel.size ?_
           intro A8 c8 w8 ho8 hg8
           have hst4 := hst3.app hG1 ho8 hg8
           clear ho8 hg8
           obtain ⟨h6, HH6⟩ : ∃ z, Hid (h5 ++ four8 t = z) := ⟨_, rfl⟩
           have HL6 : Hid (h6.length = 20) := by show _ = _; rw [← HH6.out, List.length_append, HL5.out, l4.out]
           rw [HH6.out] at hst4)
        | (go_at_call 42
           (with_reducible refine (four_any f _ f0 f1).mono ?_)
           rintro e wa ⟨Xa, ya, rfl, hoa, hba⟩
           have hst1 := hst.drew.below hba
           rw [l4.out]
           obtain ⟨ga, rfl, _, _⟩ := hoa.form (by rw [l4.out]; omega)
           have hsa := Lib.hid hoa.sl
           clear hoa hba)
        | (go_at_call 42
           (with_reducible refine (four_any t _ t0 t1).mono ?_)
           rintro e wb ⟨Xb, yb, rfl, hob, hbb⟩
           have hst3 := hst2.below hbb
           rw [l4.out]
           obtain ⟨gb, rfl, _, _⟩ := hob.form (by rw [l4.out]; omega)
           have hsb := Lib.hid hob.sl
           clear hob hbb))
    clear hst HS hst1 hst2 hst3 hsa hsb
    try clear x0 x1 x2 x3 x4 x5 x6 x7 x8
    go_wp2_with fail
    have hst := hst4
    clear hst4
    refine (refof_n' A8 h6 20 c8 _ HL6.out hst.own.bs (by rw [HL6.out]; omega)).mono ?_
    obtain ⟨z, EZ⟩ : ∃ z : Int, Hid (((65535 - rnd (words h6) : Nat) : Int) = z) := ⟨_, rfl⟩
    have zb := rnd_le (words h6)
    have z0 : 0 ≤ z := by rw [← EZ.out]; omega
    have z1 : z < 65536 := by rw [← EZ.out]; omega
    clear zb
    rw [EZ.out]
    rintro e w9 ⟨rfl, rfl⟩
    go_wp2_with fail
    refine (two_any z _ (by omega) (by omega)).mono ?_
    rintro e w10 ⟨Xs, ys, rfl, hos, hbs⟩
    obtain ⟨gs, rfl, gs0, gs1⟩ := hos.form (by rw [l2.out]; omega)
    obtain ⟨gh, rfl, gh0, gh1⟩ := hst.own.form (by rw [HL6.out]; omega)
    rw [l2.out]
    replace hst := hst.below hbs
    have s0 := hos.cell 0 (by rw [l2.out]; omega)
    have s1 := hos.cell 1 (by rw [l2.out]; omega)
    have es0 : (((two8 z).getD 0 0).toNat : Int) = z / 256 % 256 := u8_toNat _ (by omega) (by omega)
    have es1 : (((two8 z).getD 1 0).toNat : Int) = z % 256 := u8_toNat _ (by omega) (by omega)
    rw [es0] at s0
    rw [es1] at s1
    have o10 := hst.own.cell 10 (by rw [HL6.out]; omega)
    have o11 := hst.own.cell 11 (by rw [HL6.out]; omega)
    have q10 := hst.own.free 10
    have q11 := hst.own.free 11
    have n1 : gs ≠ gh := by omega
    have n2 : gh ≠ gs := by omega
    have HST := Lib.hid hst
    have NB : Hid (w.heap.size ≠ gh) := by show _ ≠ _; omega
    have GH : Hid (w1.heap.size ≤ gh) := gh0
    clear hst es0 es1 hos hbs gs0 gs1 gh0 gh1
    go_wp2_with fail
    go_region
    have HB11 := Lib.hid (HST.out.two10 NB.out GH.out z0 z1)
    clear s0 s1 o10 o11 q10 q11 n1 n2 HST NB GH
    generalize World.drew _ = w11 at HB11 ⊢
    obtain ⟨x0, x1, x2, x3, x4, x5, x6, x7, x8⟩ := HB11.out.box.cells9
    have HL7 : Hid ((put2 h6 10 z).length = 20) := by show _ = _; rw [put2_length, HL6.out]
    have HE := Lib.hid (fin_ip (life := life) (kind := kind) (id := id) EFL.out HH0.out HH1.out HH2.out HH3.out HH4.out HH5.out HH6.out HN.out EZ.out f0 f1 t0 t1)
    go_wp2_with (at_builtin; refine app_n _ rfl _ _ rfl w1.heap.size (some ⟨gh, 0, none⟩) c8 (put2 h6 10 z) 20 HL7.out rfl HB11.out.own D c bs n HN.out rfl (HS1.out.below HB11.out.bel) (by rw [HL7.out, HN.out]; omega) HB11.out.bel.size ?_; intro A12 c12 w12 ho12 hg12; have hst12 := HB11.out.app hG1 ho12 hg12; clear ho12 hg12)
    rw [HE.out] at hst12
    have HF := Lib.hid hst12
    clear hst12
    go_ret2
    exact ⟨A12, c12, rfl, HF.out.own.sl, HB0.out.trans (HF.out.bel.mono (Nat.le_of_lt hG1))⟩
end Go.Proofs.Ytnphhikbdffmpaa
