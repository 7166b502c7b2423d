/-
  The walks of icmp.back, icmp.Answer and of the reference's Answer.
-/
import Derived.Test.YtnphhikbdffmpaaIcmp7
import Derived.Test.YtnphhikbdffmpaaIpBuild
namespace Go.Proofs.Ytnphhikbdffmpaa
open Go.RowKit

theorem back_any (me id at_ life kind : Int) (wh mo : Bool) (f t : Int) (D : Option Addr) (n c : Nat) (X : Option Addr) (m x : Nat) (w : World) :
    Calls Try.prog 28 #[.int .u32 me, .agg (packet id at_ life kind wh mo f t D n c), .slice X m x] w fun e w' => e = .returned (.agg (packet id 0 64 1 false false me f X m x)) ∧ Below w.heap.size w w' := by
  go_enter Try.func28, Try.ntmps28
  go_wp2
  exact bodyPost_ret (v := .agg (packet id 0 64 1 false false me f X m x)) (by simp [results, Try.results28, go_sem]) rfl ⟨rfl, by go_grown⟩

def ansOk (me at_ kind : Int) (mo : Bool) (t : Int) (bs : List UInt8) : Prop := (kind = 1 ∧ t = me ∧ at_ = 0 ∧ mo = false) ∧ errR bs = 0 ∧ kindR bs = 8 ∧ codeR bs = 0 ∧ errB 0 0 (dataR bs).length = 0
instance (me at_ kind : Int) (mo : Bool) (t : Int) (bs : List UInt8) : Decidable (ansOk me at_ kind mo t bs) := by unfold ansOk; infer_instance
def Answered (ok : Bool) (me id f : Int) (bs : List UInt8) (w : World) (e : Ending) (w' : World) : Prop :=
  ∃ X x, e = .returned (.tuple #[.agg (packet (if ok then id else 0) 0 (if ok then 64 else 0) (if ok then 1 else 0) false false (if ok then me else 0) (if ok then f else 0) X (if ok then msg 0 0 (restR bs) (dataR bs) else []).length x), .int .i64 (if ok then 0 else 5)]) ∧
    Own w' w.heap.size X x (if ok then msg 0 0 (restR bs) (dataR bs) else []) ∧ Below w.heap.size w w'

abbrev packet0 : Array Value := packet 0 0 0 0 false false 0 0 none 0 0
theorem ans_no {me at_ kind : Int} {mo : Bool} {t : Int} {bs : List UInt8} (h : (kind != 1) = true ∨ (t != me) = true ∨ (at_ != 0) = true ∨ mo = true ∨ (errR bs != 0) = true ∨ (kindR bs != 8) = true ∨ (codeR bs != 0) = true ∨ (errB 0 0 (dataR bs).length != 0) = true) : ¬ ansOk me at_ kind mo t bs := by
  rintro ⟨⟨rfl, rfl, rfl, rfl⟩, h5, h6, h7, h8⟩
  simp [h5, h6, h7, h8] at h
/-- Where it jumps to 'none'. -/
def AnsJ (no : Prop) (w : World) (a' : Act) (W : World) : Prop :=
  no ∧ Blk W (w.heap.size + 1) 41 packet0 ∧ Below w.heap.size w W ∧ ∃ (u0 u1 u2 u3 u5 u6 u7 u8 u9 u10 u11 u12 u13 u14 u15 u16 u17 u18 u19 u20 u21 u22 u23 u24 u25 u26 u27 u28 u29 u30 u31 u32 u33 u34 u35 u36 u37 u38 u39 u40 u41 u42 u43 u44 u45 u46 u47 u48 u49 u50 u51 u52 u53 u54 u55 u56 u57 : Value), a' = { tmps := #[u0, u1, u2, u3, .pointer (some ⟨w.heap.size + 1, 0, none⟩), u5, u6, u7, u8, u9, u10, u11, u12, u13, u14, u15, u16, u17, u18, u19, u20, u21, u22, u23, u24, u25, u26, u27, u28, u29, u30, u31, u32, u33, u34, u35, u36, u37, u38, u39, u40, u41, u42, u43, u44, u45, u46, u47, u48, u49, u50, u51, u52, u53, u54, u55, u56, u57], defers := [] }
theorem answered_no {ok : Prop} [Decidable ok] (h : ¬ ok) {me id f : Int} {bs : List UInt8} {w : World} {e : Ending} {w' : World} (he : e = .returned (.tuple #[.agg packet0, .int .i64 5])) (hb : Below w.heap.size w w') : Answered (decide ok) me id f bs w e w' := by
  rw [decide_eq_false h]
  exact ⟨none, 0, he, Own.nil _ _, hb⟩
theorem answered_yes {ok : Prop} [Decidable ok] (h : ok) {me id f : Int} {bs : List UInt8} {w : World} {e : Ending} {w' : World} {X : Option Addr} {x : Nat} (he : e = .returned (.tuple #[.agg (packet id 0 64 1 false false me f X (msg 0 0 (restR bs) (dataR bs)).length x), .int .i64 0])) (ho : Own w' w.heap.size X x (msg 0 0 (restR bs) (dataR bs))) (hb : Below w.heap.size w w') : Answered (decide ok) me id f bs w e w' := by
  rw [decide_eq_true h]
  exact ⟨X, x, he, ho, hb⟩

set_option maxHeartbeats 4000000 in
set_option maxRecDepth 100000 in
theorem answer_any (me id at_ life kind : Int) (wh mo : Bool) (f t : Int) (D : Option Addr) (bs : List UInt8) (n c : Nat) (w : World) (hn : bs.length = n) (hs : Sl w D c bs) (hl : bs.length ≤ 70000) :
    Calls Try.prog 16 #[.int .u32 me, .agg (packet id at_ life kind wh mo f t D n c)] w (Answered (decide (ansOk me at_ kind mo t bs)) me id f bs w) := by
  have hb1 : Below w.heap.size w ((w.alloc (.cells (packet id at_ life kind wh mo f t D n c) 41)).alloc (.cells (packet 0 0 0 0 false false 0 0 none 0 0) 41)) := ((Below.refl _ _).alloc (Nat.le_refl _) _).alloc (by simp) _
  have hs1 := hs.below hb1
  have hbx := blk_old (blk_new w 41 (packet id at_ life kind wh mo f t D n c)) (.cells (packet 0 0 0 0 false false 0 0 none 0 0) 41)
  have hrs := blk_new (w.alloc (.cells (packet id at_ life kind wh mo f t D n c) 41)) 41 (packet 0 0 0 0 false false 0 0 none 0 0)
  have hG : (w.alloc (.cells (packet id at_ life kind wh mo f t D n c) 41)).heap.size = w.heap.size + 1 := by simp
  rw [hG] at hrs
  clear hG hs
  have HN := Lib.hid hn
  have HL := Lib.hid hl
  clear hn hl
  go_enter Try.func16, Try.ntmps16
  go_wp2_with fail
  refine wp_scope_jumps 0 (AnsJ (¬ ansOk me at_ kind mo t bs) w) (fun _ _ => 0) rfl ?first ?pass
  case pass =>
    clear hb1 hs1 hbx hrs
    rintro a' W ⟨hno, hrs, hb, u0, u1, u2, u3, u5, u6, u7, u8, u9, u10, u11, u12, u13, u14, u15, u16, u17, u18, u19, u20, u21, u22, u23, u24, u25, u26, u27, u28, u29, u30, u31, u32, u33, u34, u35, u36, u37, u38, u39, u40, u41, u42, u43, u44, u45, u46, u47, u48, u49, u50, u51, u52, u53, u54, u55, u56, u57, rfl⟩
    obtain ⟨r0, r1, r2, r3, r4, r5, r6, r7, r8⟩ := hrs.cells9
    obtain ⟨f0, f1, f2, f3, f4, f5, f6, f7, f8⟩ := hrs.frees9
    obtain ⟨hk, hg⟩ := hrs.store9 (.int .i64 0) (.int .i64 0) (.int .i64 0) (.int .i64 0) (.bool false) (.bool false) (.int .u32 0) (.int .u32 0) (.slice none 0 0)
    have HK := Lib.hid hk
    have HB := Lib.hid (below_grown hb hg (Nat.le_refl _) (by omega))
    have HNO := Lib.hid hno
    clear hk hg hb hrs hno
    go_wp2_with fail
    generalize World.setCell _ _ (Value.slice none 0 0) = w5 at HK HB ⊢
    simp only [Exit.jump]
    obtain ⟨d0, d1, d2, d3, d4, d5, d6, d7, d8⟩ := HK.out.cells9
    exact bodyPost_ret (v := .tuple #[.agg packet0, .int .i64 5]) (by simp [results, Try.results16, go_sem, d0, d1, d2, d3, d4, d5, d6, d7, d8]) rfl (answered_no HNO.out rfl HB.out)
  go_wp2_with fail
  generalize (w.alloc (.cells (packet id at_ life kind wh mo f t D n c) 41)).alloc (.cells (packet 0 0 0 0 false false 0 0 none 0 0) 41) = w1 at *
  refine (read_n D bs n c w1 HN.out hs1 HL.out).mono ?_
  rintro e w2 ⟨X, x, rfl, ho, hb2⟩
  have hrb := restR_bd bs
  obtain ⟨kR, EK⟩ : ∃ z, Hid (kindR bs = z) := ⟨_, rfl⟩
  obtain ⟨cR, EC⟩ : ∃ z, Hid (codeR bs = z) := ⟨_, rfl⟩
  obtain ⟨rR, ER⟩ : ∃ z, Hid (restR bs = z) := ⟨_, rfl⟩
  obtain ⟨eR, EE⟩ : ∃ z, Hid (errR bs = z) := ⟨_, rfl⟩
  obtain ⟨dn, ED⟩ : ∃ z, Hid ((dataR bs).length = z) := ⟨_, rfl⟩
  rw [EK.out, EC.out, ER.out, EE.out, ED.out]
  rw [ER.out] at hrb
  have hz1 : w.heap.size ≤ w1.heap.size := hb1.size
  replace hb1 := hb1.trans (hb2.mono hb1.size)
  have HB2 := Lib.hid hb1
  have HBX2 := Lib.hid (hbx.below hb2 hbx.lt)
  have HRS2 := Lib.hid (hrs.below hb2 hrs.lt)
  have HOO := Lib.hid (ho.base (B' := w.heap.size) hz1)
  have hb1' := hb1.alloc hb1.size (.cells #[.int .i64 kR, .int .i64 cR, .int .u32 rR, .slice X dn x] 25)
  replace hbx := blk_old (hbx.below hb2 hbx.lt) (.cells #[.int .i64 kR, .int .i64 cR, .int .u32 rR, .slice X dn x] 25)
  replace hrs := blk_old (hrs.below hb2 hrs.lt) (.cells #[.int .i64 kR, .int .i64 cR, .int .u32 rR, .slice X dn x] 25)
  have hms := blk_new w2 25 #[.int .i64 kR, .int .i64 cR, .int .u32 rR, .slice X dn x]
  have ho2 := (ho.base (B' := w.heap.size) hz1).keep ((Below.refl _ _).alloc (Nat.le_refl _) (.cells #[.int .i64 kR, .int .i64 cR, .int .u32 rR, .slice X dn x] 25))
  clear ho hb2 hb1 hs1
  obtain ⟨x0, x1, x2, x3, x4, x5, x6, x7, x8⟩ := hbx.cells9
  obtain ⟨r0, r1, r2, r3, r4, r5, r6, r7, r8⟩ := hrs.cells9
  obtain ⟨f0, f1, f2, f3, f4, f5, f6, f7, f8⟩ := hrs.frees9
  have HBX := Lib.hid hbx
  have HRS := Lib.hid hrs
  have HMS := Lib.hid hms
  have HB1 := Lib.hid hb1'
  have HO2 := Lib.hid ho2
  clear hbx hrs hms hb1' ho2
  cases h1 : (kind != 1)
  · have _t0 := trivial
    cases h2 : (t != me)
    · have _t1 := trivial
      cases h3 : (at_ != 0)
      · have _t2 := trivial
        cases mo
        · have _t3 := trivial
          cases h5 : (eR != 0)
          · have _t4 := trivial
            cases h6 : (kR != 8)
            · have _t5 := trivial
              cases h7 : (cR != 0)
              · have _t6 := trivial
                obtain rfl : cR = 0 := by simpa using h7
                go_wp2_with fail
                have hb3 := HB2.out.alloc HB2.out.size (.cells #[.int .i64 0, .int .i64 0, .int .u32 rR, .slice X dn x] 25)
                have hbx3 := blk_old HBX2.out (.cells #[.int .i64 0, .int .i64 0, .int .u32 rR, .slice X dn x] 25)
                have hrs3 := blk_old HRS2.out (.cells #[.int .i64 0, .int .i64 0, .int .u32 rR, .slice X dn x] 25)
                have ho3 := HOO.out.keep ((Below.refl _ _).alloc (Nat.le_refl _) (.cells #[.int .i64 0, .int .i64 0, .int .u32 rR, .slice X dn x] 25))
                clear x0 x1 x2 x3 x4 x5 x6 x7 x8 r0 r1 r2 r3 r4 r5 r6 r7 r8 f0 f1 f2 f3 f4 f5 f6 f7 f8
                clear HBX HRS HMS HB1 HO2
                generalize w2.alloc (.cells #[.int .i64 0, .int .i64 0, .int .u32 rR, .slice X dn x] 25) = w3 at *
                refine (build_n 0 0 rR X (dataR bs) dn x _ ED.out hrb.1 hrb.2 ho3.sl).mono ?_
                rintro e w4 ⟨X2, x2, rfl, ho4, hb4⟩
                replace hbx3 := hbx3.below hb4 hbx3.lt
                replace hrs3 := hrs3.below hb4 hrs3.lt
                have ho5 := ho4.base hb3.size
                replace hb3 := hb3.trans (hb4.mono hb3.size)
                obtain ⟨x0, x1, x2', x3, x4, x5, x6, x7, x8⟩ := hbx3.cells9
                obtain ⟨zE, EZ⟩ : ∃ z, Hid (errB 0 0 (dataR bs).length = z) := ⟨_, rfl⟩
                rw [EZ.out]
                have HO := Lib.hid ho5
                have HB3 := Lib.hid hb3
                have HRS3 := Lib.hid hrs3
                obtain ⟨ol, EOL⟩ : ∃ z, Hid ((outB 0 0 rR (dataR bs)).length = z) := ⟨_, rfl⟩
                rw [EOL.out]
                clear ho5 hb3 hrs3 hbx3 ho3 ho4 hb4
                cases h8 : (zE != 0)
                · obtain rfl : zE = 0 := by simpa using h8
                  have eo : outB 0 0 rR (dataR bs) = msg 0 0 rR (dataR bs) := by rw [outB, if_pos EZ.out]
                  rw [eo] at HO EOL
                  have HOK : Hid (ansOk me at_ kind false t bs) := by
                    refine ⟨⟨by simpa using h1, by simpa using h2, by simpa using h3, rfl⟩, ?_, ?_, EC.out, EZ.out⟩
                    · rw [EE.out]; simpa using h5
                    · rw [EK.out]; simpa using h6
                  clear eo
                  go_wp2_with fail
                  refine (back_any me id at_ life kind wh false f t D n c X2 ol x2 _).mono ?_
                  rintro e w5 ⟨rfl, hb5⟩
                  have hrs5 := HRS3.out.below hb5 HRS3.out.lt
                  have ho5 := HO.out.keep hb5
                  have hb6 := HB3.out.trans (hb5.mono HB3.out.size)
                  obtain ⟨r0, r1, r2, r3, r4, r5, r6, r7, r8⟩ := hrs5.cells9
                  obtain ⟨f0, f1, f2, f3, f4, f5, f6, f7, f8⟩ := hrs5.frees9
                  obtain ⟨hk, hg⟩ := hrs5.store9 (.int .i64 id) (.int .i64 0) (.int .i64 64) (.int .i64 1) (.bool false) (.bool false) (.int .u32 me) (.int .u32 f) (.slice X2 ol x2)
                  have HK := Lib.hid hk
                  have HBF := Lib.hid (below_grown hb6 hg (Nat.le_refl _) (by omega))
                  have HOF := Lib.hid (ho5.grown hrs5 (by decide) hg)
                  clear hk hg hrs5 ho5 hb6 hb5
                  go_wp2_with fail
                  generalize World.setCell _ _ (Value.slice X2 ol x2) = w6 at HK HBF HOF ⊢
                  simp only [Exit.jump]
                  obtain ⟨d0, d1, d2, d3, d4, d5, d6, d7, d8⟩ := HK.out.cells9
                  refine bodyPost_ret (v := .tuple #[.agg (packet id 0 64 1 false false me f X2 ol x2), .int .i64 0]) (by simp [results, Try.results16, go_sem, d0, d1, d2, d3, d4, d5, d6, d7, d8]) rfl (answered_yes HOK.out (X := X2) (x := x2) ?_ ?_ HBF.out)
                  · rw [ER.out, EOL.out]
                  · rw [ER.out]; exact HOF.out
                · go_wp2_with fail
                  go_step3
                  exact ⟨rfl, ans_no (.inr (.inr (.inr (.inr (.inr (.inr (.inr (by rw [EZ.out]; exact h8)))))))), HRS3.out, HB3.out, _, _, _, _, _, _, _, _, _, _, _, _, _, _, _, _, _, _, _, _, _, _, _, _, _, _, _, _, _, _, _, _, _, _, _, _, _, _, _, _, _, _, _, _, _, _, _, _, _, _, _, _, _, _, _, _, _, rfl⟩
              · go_wp2_with fail
                go_step3
                exact ⟨rfl, ans_no (.inr (.inr (.inr (.inr (.inr (.inr (.inl (by rw [EC.out]; exact h7)))))))), HRS.out, HB1.out, _, _, _, _, _, _, _, _, _, _, _, _, _, _, _, _, _, _, _, _, _, _, _, _, _, _, _, _, _, _, _, _, _, _, _, _, _, _, _, _, _, _, _, _, _, _, _, _, _, _, _, _, _, _, _, _, _, rfl⟩
            · go_wp2_with fail
              go_step3
              exact ⟨rfl, ans_no (.inr (.inr (.inr (.inr (.inr (.inl (by rw [EK.out]; exact h6))))))), HRS.out, HB1.out, _, _, _, _, _, _, _, _, _, _, _, _, _, _, _, _, _, _, _, _, _, _, _, _, _, _, _, _, _, _, _, _, _, _, _, _, _, _, _, _, _, _, _, _, _, _, _, _, _, _, _, _, _, _, _, _, _, rfl⟩
          · go_wp2_with fail
            go_step3
            exact ⟨rfl, ans_no (.inr (.inr (.inr (.inr (.inl (by rw [EE.out]; exact h5)))))), HRS.out, HB1.out, _, _, _, _, _, _, _, _, _, _, _, _, _, _, _, _, _, _, _, _, _, _, _, _, _, _, _, _, _, _, _, _, _, _, _, _, _, _, _, _, _, _, _, _, _, _, _, _, _, _, _, _, _, _, _, _, _, rfl⟩
        · go_wp2_with fail
          go_step3
          exact ⟨rfl, ans_no (.inr (.inr (.inr (.inl rfl)))), HRS.out, HB1.out, _, _, _, _, _, _, _, _, _, _, _, _, _, _, _, _, _, _, _, _, _, _, _, _, _, _, _, _, _, _, _, _, _, _, _, _, _, _, _, _, _, _, _, _, _, _, _, _, _, _, _, _, _, _, _, _, _, rfl⟩
      · go_wp2_with fail
        go_step3
        exact ⟨rfl, ans_no (.inr (.inr (.inl h3))), HRS.out, HB1.out, _, _, _, _, _, _, _, _, _, _, _, _, _, _, _, _, _, _, _, _, _, _, _, _, _, _, _, _, _, _, _, _, _, _, _, _, _, _, _, _, _, _, _, _, _, _, _, _, _, _, _, _, _, _, _, _, _, rfl⟩
    · go_wp2_with fail
      go_step3
      exact ⟨rfl, ans_no (.inr (.inl h2)), HRS.out, HB1.out, _, _, _, _, _, _, _, _, _, _, _, _, _, _, _, _, _, _, _, _, _, _, _, _, _, _, _, _, _, _, _, _, _, _, _, _, _, _, _, _, _, _, _, _, _, _, _, _, _, _, _, _, _, _, _, _, _, rfl⟩
  · go_wp2_with fail
    go_step3
    exact ⟨rfl, ans_no (.inl h1), HRS.out, HB1.out, _, _, _, _, _, _, _, _, _, _, _, _, _, _, _, _, _, _, _, _, _, _, _, _, _, _, _, _, _, _, _, _, _, _, _, _, _, _, _, _, _, _, _, _, _, _, _, _, _, _, _, _, _, _, _, _, _, rfl⟩
end Go.Proofs.Ytnphhikbdffmpaa
