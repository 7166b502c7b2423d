/-
  The walk of join.move.
-/
import Derived.Test.YtfijbbhoemdhbaaJoin2
import Derived.Deep.RegionLaw
import Derived.Deep.DeepCutAuto
import Derived.Deep.AppendLies
namespace Go.Proofs.Ytfijbbhoemdhbaa
open Go.RowKit

section
variable {g R T : Nat} {s : JS}

def MoveAt (g R T : Nat) (A : Option Addr) (w : World) (s : JS) (k : Nat) (w' : World) : Prop :=
  ∃ A' c', JAt w' g R T A' c' (runS k s) ∧ Frame (JF g R T A) w w' ∧ (∀ i, JF g R T A' i → JF g R T A i ∨ w.heap.size ≤ i) ∧ (∀ i, i < k → (runS i s).has.getD (runS i s).first false = true)

/-- Behind the append. -/
def Mid (g R T : Nat) (A : Option Addr) (w : World) (s : JS) (w' : World) : Prop :=
  ∃ A' c', JMem w' g R T A' c' s ∧ Frame (JF g R T A) w w' ∧ ∀ i, JF g R T A' i → JF g R T A i ∨ w.heap.size ≤ i

theorem own_jf {A' : Option Addr} {n c' k : Nat} (h : (Value.slice A' n c').ownBlock = some k) : JF g R T A' k := by
  cases A' with
  | none => simp [Value.ownBlock] at h
  | some a => exact .inr (.inr (.inr ⟨a, rfl, by simpa [Value.ownBlock] using h⟩))

theorem mid_of {w w1 w2 : World} {A A' : Option Addr} {c' gg cap : Nat} {S : JS} {x : UInt8} (hj : JMem w1 g R T A' c' S) (hf : Frame (JF g R T A) w w1) (hn : ∀ i, JF g R T A' i → JF g R T A i ∨ w.heap.size ≤ i)
    (hown1 : w2.ownsRow 0 5 1 (.slice (some ⟨gg, 0, none⟩) (S.ready.length + 1) cap) (S.ready.length + 1) (S.ready.map bval ++ [.int .u8 (x.toNat : Int)]))
    (hgrow : (w1.alloc (.cells #[.int .u8 (x.toNat : Int)] 5)).drew.grownBy w2 (Value.slice A' S.ready.length c').ownBlock) (hat : (Value.slice A' S.ready.length c').ownBlock = some gg ∨ gg = w1.heap.size + 1) :
    Mid g R T A w { S with ready := S.ready ++ [x] } (w2.setCell ⟨g, 5, none⟩ (.slice (some ⟨gg, 0, none⟩) (S.ready.length + 1) cap)) := by
  have kb : ∀ k, k < w1.heap.size → (Value.slice A' S.ready.length c').ownBlock ≠ some k → w2.heap[k]? = w1.heap[k]? := fun k hk hne =>
    (hgrow.block k (by simp; omega) (Ne.symm hne)).trans (Below.heap_alloc w1 _ k hk)
  have b1 := hj.blk.keep (kb g hj.blk.lt hj.Ag)
  have b2 := hj.ring.keep (kb R hj.ring.lt hj.apart)
  have b3 := hj.has.keep (kb T hj.has.lt hj.AT)
  have ho : Own w2 0 (some ⟨gg, 0, none⟩) cap (S.ready ++ [x]) := by
    unfold Own
    rw [List.length_append, List.map_append]
    exact hown1
  have hne : (Value.slice (some ⟨gg, 0, none⟩) (S.ready ++ [x]).length cap).ownBlock ≠ some R := by
    intro he
    have e : gg = R := by simpa [Value.ownBlock] using he
    rcases hat with h1 | h1
    · exact hj.apart (by rw [h1, e])
    · have := hj.ring.lt; omega
  refine ⟨some ⟨gg, 0, none⟩, cap, ⟨?_, b2.far (p := ⟨g, 5, none⟩) (fun e => hj.gR e.symm) _, b3.far (p := ⟨g, 5, none⟩) (fun e => hj.gT e.symm) _, own_set_far ho (p := ⟨g, 5, none⟩) (own_blk_ne ho b1 (by decide)) _, hne⟩, ?_, ?_⟩
  · have := b1.set 5 (.slice (some ⟨gg, 0, none⟩) (S.ready.length + 1) cap)
    simpa using this
  · refine Frame.set (Frame.grown (Frame.drewN (hf.alloc _) 1) hgrow (fun k hk => hn k (own_jf hk))) (p := ⟨g, 5, none⟩) (.inl rfl) _
  · intro i hi
    rcases hi with h1 | h1 | h1 | ⟨a, ha, hb⟩
    · exact .inl (.inl h1)
    · exact .inl (.inr (.inl h1))
    · exact .inl (.inr (.inr (.inl h1)))
    · injection ha with ha
      subst ha
      subst hb
      rcases hat with h1 | h1
      · exact hn gg (own_jf h1)
      · exact .inr (by have := hf.size; show w.heap.size ≤ gg; omega)

def MoveJ (g R T : Nat) (A : Option Addr) (w : World) (s : JS) (a' : Act) (w' : World) : Prop :=
  ∃ k : Nat, MoveAt g R T A w s k w' ∧ ∃ z : Int, z = k ∧ ∃ u1 u4 u5 u6 u7 u8 u9 u10 u11 u12 u13 u14 u15 u16 u17 u18 u19 u20 u21 u22 u23 u24 u25 u26 u27 u28 u29 u30 u31 u32 u33 u34 u35 u36 u37 u38 u39 u40 u41 u42 u43 u44 u45 u46 u47 u48 u49 u50 u51 u52 u53 u54 u55 u56 u57 u58 u59 u60 u61 u62 u63 u64 : Value, a' = { tmps := #[.pointer (some ⟨g, 0, none⟩), u1, .int .i64 0, .int .i64 z, u4, u5, u6, u7, u8, u9, u10, u11, u12, u13, u14, u15, u16, u17, u18, u19, u20, u21, u22, u23, u24, u25, u26, u27, u28, u29, u30, u31, u32, u33, u34, u35, u36, u37, u38, u39, u40, u41, u42, u43, u44, u45, u46, u47, u48, u49, u50, u51, u52, u53, u54, u55, u56, u57, u58, u59, u60, u61, u62, u63, u64], defers := [] }
def trues (g : Nat) (_ : Act) (w : World) : Nat := match w.cell? ⟨g, 4, none⟩ with | some (.int _ h) => h.toNat | _ => 0

set_option maxHeartbeats 1000000 in
set_option maxRecDepth 100000 in
theorem move_any {w : World} {A : Option Addr} {c : Nat} (h : JAt w g R T A c s) :
    Calls Try.prog 27 #[.pointer (some ⟨g, 0, none⟩)] w fun e w' => ∃ k : Nat, e = .returned (.int .i64 k) ∧ MoveAt g R T A w s k w' ∧ (runS k s).has.getD (runS k s).first false = false := by
  go_enter Try.func27, Try.ntmps27
  go_wp2
  refine wp_scope_jumps 0 (MoveJ g R T A w s) (trues g) rfl ?first ?pass
  case' first =>
    go_wp2
    go_step3
    change Exit.then _ _ _ { tmps := #[.pointer (some ⟨g, 0, none⟩), undef, .int .i64 0, .int .i64 (Int.ofNat 0), undef, undef, undef, undef, undef, undef, undef, undef, undef, undef, undef, undef, undef, undef, undef, undef, undef, undef, undef, undef, undef, undef, undef, undef, undef, undef, undef, undef, undef, undef, undef, undef, undef, undef, undef, undef, undef, undef, undef, undef, undef, undef, undef, undef, undef, undef, undef, undef, undef, undef, undef, undef, undef, undef, undef, undef, undef, undef, undef, undef, undef], defers := [] } _
    obtain ⟨k, A', c', w', hw, ⟨hj, hf, hn, ht⟩, hz⟩ : ∃ (k : Nat) (A' : Option Addr) (c' : Nat) (w' : World), w' = w ∧ (JAt w' g R T A' c' (runS k s) ∧ Frame (JF g R T A) w w' ∧ (∀ i, JF g R T A' i → JF g R T A i ∨ w.heap.size ≤ i) ∧ (∀ i, i < k → (runS i s).has.getD (runS i s).first false = true)) ∧ Int.ofNat 0 = (k : Int) :=
      ⟨0, A, c, w, rfl, ⟨h, Frame.refl _ _, fun i hi => .inl hi, fun i hi => by omega⟩, rfl⟩
    rw [← hw]
    clear hw
    generalize Int.ofNat 0 = z at hz ⊢
  case' pass =>
    rintro a' w' ⟨k, ⟨A', c', hj, hf, hn, ht⟩, z, hz, u1, u4, u5, u6, u7, u8, u9, u10, u11, u12, u13, u14, u15, u16, u17, u18, u19, u20, u21, u22, u23, u24, u25, u26, u27, u28, u29, u30, u31, u32, u33, u34, u35, u36, u37, u38, u39, u40, u41, u42, u43, u44, u45, u46, u47, u48, u49, u50, u51, u52, u53, u54, u55, u56, u57, u58, u59, u60, u61, u62, u63, u64, rfl⟩
  all_goals
    have c1 := hj.c1
    have c3 := hj.c3
    have hfi := hj.inv.first
    have ct := hj.ch _ hfi
    have k0 : ((runS k s).first : Int) < ((runS k s).ring.length : Int) := by omega
    have HR := Lib.hid (runS_ready s k)
    have HC4 := Lib.hid hj.c4
    generalize hS : runS k s = S at *
    have HS := Lib.hid hS
    clear hS
    have HZ := Lib.hid hz
    clear hz
    cases hb : S.has.getD S.first false
    · rw [hb] at ct
      go_wp2_with fail
      go_quiet (fail)
      go_wp2_with fail
      simp only [Exit.jump]
      go_ret
      exact ⟨k, by rw [← HZ.out]; rfl, ⟨A', c', by rw [HS.out]; exact hj.drewN nq, hf.drewN nq, hn, ht⟩, by rw [HS.out]; exact hb⟩
    · rw [hb] at ct
      have HB := Lib.hid hb
      clear hb
      go_wp2_with fail
      go_quiet (fail)
      replace hj := hj.drewN nq
      replace hf := hf.drewN nq
      generalize w'.drewN nq = w1 at *
      clear c1 c3 ct
      have c1 := hj.c1
      have c2 := hj.c2
      have c5 := hj.c5
      have cr := hj.cr _ hfi
      have f5 := hj.blk.free 5
      have lg := hj.blk.lt
      have lR := hj.ring.lt
      have hown : w1.ownsRow 0 5 1 (.slice A' S.ready.length c') S.ready.length (S.ready.map bval) := hj.ready
      have aG := hj.Ag
      have aR := hj.apart
      have hle : S.ready.length ≤ 65535 := by have := hj.inv.few; have := hj.inv.room; omega
      generalize hx : S.ring.getD S.first 0 = x at *
      have HX := Lib.hid hx
      clear hx
      obtain ⟨i0, hi0, hz0, hz1, hz2⟩ := info_parts info_u8
      go_upto_region 4 with fail
      go_cut [3] (fun s3 wx => s3 = .int .i64 z ∧ Mid g R T A w { S with ready := S.ready ++ [x] } wx)
      case first =>
        go_region_law ((refine step_append_lies _ (by rfl) _ _ _ (by rfl) 0 5 i0 _ 1 1 Try.underlying23 hi0 hz0 hz1 hz2 rfl (by omega) (.slice A' S.ready.length c') S.ready.length (S.ready.map bval) (by rfl) ((hown.alloc _).drew) ⟨w1.heap.size, 0, none⟩ 1 1 [.int .u8 (x.toNat : Int)] (by rfl) (by rfl) (World.news_of_block (cs := #[.int .u8 (x.toNat : Int)]) (t := 5) (fr := (0, 0)) (heap_alloc_new w1 _)) (by simp [Value.oneCell']) (by omega) (by simp only [maxLen]; omega) (by omega) (by omega) (w1.heap.size + 1) (by simp) ?_; intro gg cap w2 hown1 hgrow hat hlt; have f5' : w2.frozen? ⟨g, 5, none⟩ = false := (hgrow.frozen_far ⟨g, 5, none⟩ (by simp; omega) (Ne.symm aG)).trans ((World.frozen?_alloc_past _ _ _ lg).trans f5); have c5' : w2.cell? ⟨g, 5, none⟩ = some (.slice A' S.ready.length c') := (hgrow.cell_far ⟨g, 5, none⟩ (by simp; omega) (Ne.symm aG)).trans ((World.cell?_alloc_past _ _ _ lg).trans c5)))
        all_goals
          go_wp2_with fail
          go_meet
          exact ⟨rfl, mid_of hj.toJMem hf hn hown1 hgrow hat⟩
      case rest =>
        obtain ⟨rfl, A2, c2', hm, hf2, hn2⟩ := hcut
        clear c1 c2 c5 f5 lg lR hown aG aR cr hi0 hz0 hz1 hz2
        have d1 := hm.c1
        have d3 := hm.c3
        have dt : wc.cell? ⟨T, S.first, none⟩ = some (.bool true) := by
          rw [hm.has.cell]
          have hl : S.first < S.has.length := by rw [hj.inv.len]; exact hfi
          have := HB.out
          simp [List.getD_eq_getElem?_getD, List.getElem?_eq_getElem hl] at this
          simp [bools, List.getElem?_eq_getElem hl, this]
        have ft := hm.has.free S.first
        have n2 := hm.gT
        have hst := Lib.hid (step_inv S hj.inv HB.out)
        have hbd := Lib.hid (held_le S hj.inv)
        have hcn := Lib.hid (count_set_false S.has S.first (by rw [hj.inv.len]; exact hfi) HB.out)
        have hhe := Lib.hid hj.inv.held
        have hnx0 := hj.inv.n0
        have hnx1 := hj.inv.n1
        have hro := hj.inv.room
        have hm2 := (hm.setHas S.first false).drew
        have hf3 := (hf2.set (p := ⟨T, S.first, none⟩) (.inr (.inr (.inl rfl))) (.bool false)).drewN 1
        go_wp2_with fail
        go_region
        change Exit.then _ _ _ _ ((wc.setCell ⟨T, S.first, none⟩ (.bool false)).drew)
        change Frame _ _ ((wc.setCell ⟨T, S.first, none⟩ (.bool false)).drew) at hf3
        generalize (wc.setCell ⟨T, S.first, none⟩ (.bool false)).drew = w3 at *
        clear d1 d3 dt ft
        go_wp2_with fail
        refine (place_mem hm2 hfi hro 1 (by omega)).mono ?_
        rintro e w4 ⟨rfl, hd⟩
        replace hm2 := hm2.drawn hd
        replace hf3 := hf3.drawn hd
        have e0 := hm2.c0
        have e1 := hm2.c1
        have e4 := hm2.c4
        have f0 := hm2.blk.free 0
        have f1 := hm2.blk.free 1
        have f4 := hm2.blk.free 4
        have hh1 : 1 ≤ S.held ∧ S.held ≤ 65535 := by have := hbd.out; have := hcn.out; have := hhe.out; omega
        obtain ⟨hh1, hh2⟩ := hh1
        have hz0 : 0 ≤ z ∧ z ≤ 70000 := by have := HZ.out; have := HR.out; omega
        obtain ⟨hz0, hz1⟩ := hz0
        have hfin : JMem (((w4.setCell ⟨g, 1, none⟩ (.int .i64 (plc { next := S.next, first := S.first, ring := S.ring, has := S.has.set S.first false, held := S.held, ready := S.ready ++ [x] } 1 : Nat))).setCell ⟨g, 4, none⟩ (.int .i64 (S.held - 1))).setCell ⟨g, 0, none⟩ (.int .u32 ((S.next + 1) % 4294967296))) g R T A2 c2' (stepS S) := by
          have := ((hm2.setFirst (plc { next := S.next, first := S.first, ring := S.ring, has := S.has.set S.first false, held := S.held, ready := S.ready ++ [x] } 1)).setHeld (S.held - 1)).setNext ((S.next + 1) % 4294967296)
          rw [← HX.out] at this ⊢
          exact this
        have hff := ((hf3.set (p := ⟨g, 1, none⟩) (.inl rfl) (.int .i64 (plc { next := S.next, first := S.first, ring := S.ring, has := S.has.set S.first false, held := S.held, ready := S.ready ++ [x] } 1 : Nat))).set (p := ⟨g, 4, none⟩) (.inl rfl) (.int .i64 (S.held - 1))).set (p := ⟨g, 0, none⟩) (.inl rfl) (.int .u32 ((S.next + 1) % 4294967296))
        have MA := Lib.hid (show MoveAt g R T A w s (k + 1) _ from ⟨A2, c2', by rw [runS_succ, HS.out]; exact ⟨hfin, hst.out.1⟩, hff, hn2, fun i hi => by
          by_cases e : i = k
          · subst e; rw [HS.out]; exact HB.out
          · exact ht i (by omega)⟩)
        have LT := Lib.hid hfin.c4
        clear hfin hff
        go_wp2_with fail
        go_step3
        first
          | exact ⟨rfl, k + 1, MA.out, z + 1, by rw [HZ.out]; omega, _, _, _, _, _, _, _, _, _, _, _, _, _, _, _, _, _, _, _, _, _, _, _, _, _, _, _, _, _, _, _, _, _, _, _, _, _, _, _, _, _, _, _, _, _, _, _, _, _, _, _, _, _, _, _, _, _, _, _, _, _, _, rfl⟩
          | exact ⟨rfl, ⟨k + 1, MA.out, z + 1, by rw [HZ.out]; omega, _, _, _, _, _, _, _, _, _, _, _, _, _, _, _, _, _, _, _, _, _, _, _, _, _, _, _, _, _, _, _, _, _, _, _, _, _, _, _, _, _, _, _, _, _, _, _, _, _, _, _, _, _, _, _, _, _, _, _, _, _, _, rfl⟩, by unfold trues; rw [LT.out, HC4.out]; show (S.held - 1).toNat < S.held.toNat; omega⟩
end
end Go.Proofs.Ytfijbbhoemdhbaa
