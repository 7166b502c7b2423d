/-
  The walk of law08.few.
-/
import Derived.Test.YtpdkoooecnmjjaaFragS
namespace Go.Proofs.Ytpdkoooecnmjjaa
open Go.RowKit
set_option linter.unusedVariables false

/-- A packet of these numbers, with bytes of its own. -/
def FewR (id at_ life kind : Int) (wh mo : Bool) (f t : Int) (bs : List UInt8) (w : World) (e : Ending) (w' : World) : Prop :=
  ∃ D q, e = .returned (.agg (pkV id at_ life kind wh mo f t D bs.length q)) ∧ Own w' w.heap.size D q bs ∧ Below w.heap.size w w'
set_option maxHeartbeats 8000000 in
set_option maxRecDepth 100000 in
theorem few_any (id at_ life kind : Int) (wh mo : Bool) (f t : Int) (D : Option Addr) (bs : List UInt8) (n q : Nat) (w : World) (hn : bs.length = n) (hs : Sl w D q bs) :
    Calls Try.prog 9 #[.agg (pkV id at_ life kind wh mo f t D n q)] w (FewR id at_ life kind wh mo f t (bs.take 200) w) := by
  have h1 := hs.2.1
  have h2 := hs.2.2.1
  have hz : 200 < n ∧ (bs.take 200).length = 200 ∨ n ≤ 200 ∧ (bs.take 200).length = n := by rw [List.length_take]; omega
  have hnc : n ≤ q := by omega
  have hb0 : Below w.heap.size w ((w.alloc (.cells (pkV id at_ life kind wh mo f t D n q) 33)).alloc (.cells (pkV 0 0 0 0 false false 0 0 none 0 0) 33)) := ((Below.refl _ _).alloc (Nat.le_refl _) _).alloc (by simp) _
  have hr : Blk ((w.alloc (.cells (pkV id at_ life kind wh mo f t D n q) 33)).alloc (.cells (pkV 0 0 0 0 false false 0 0 none 0 0) 33)) (w.heap.size + 1) 33 (pkV 0 0 0 0 false false 0 0 none 0 0) := by
    have := blk_new (w.alloc (.cells (pkV id at_ life kind wh mo f t D n q) 33)) 33 (pkV 0 0 0 0 false false 0 0 none 0 0)
    simpa using this
  have hp : Blk ((w.alloc (.cells (pkV id at_ life kind wh mo f t D n q) 33)).alloc (.cells (pkV 0 0 0 0 false false 0 0 none 0 0) 33)) w.heap.size 33 (pkV id at_ life kind wh mo f t D n q) := blk_old (blk_new w _ _) _
  have hs' := (hs.take 200).below hb0
  have HB := Lib.hid hb0
  have HR := Lib.hid hr
  have HP := Lib.hid hp
  have HS := Lib.hid hs'
  generalize bs.take 200 = xs at *
  clear hs hs' hb0 hr hp h1 hn
  go_enter Try.func9, Try.ntmps9
  go_upto_region 1 with fail
  generalize (w.alloc (.cells (pkV id at_ life kind wh mo f t D n q) 33)).alloc (.cells (pkV 0 0 0 0 false false 0 0 none 0 0) 33) = w1 at *
  obtain ⟨gr, EGR⟩ : ∃ z, Hid (w.heap.size + 1 = z) := ⟨_, rfl⟩
  rw [EGR.out] at HR ⊢
  obtain ⟨gp, EGP⟩ : ∃ z, Hid (w.heap.size = z) := ⟨_, rfl⟩
  rw [EGP.out] at HP ⊢
  have p8 : w1.cell? ⟨gp, 8, none⟩ = some (.slice D n q) := HP.out.cell 8
  obtain ⟨m, EM⟩ : ∃ z, Hid (xs.length = z) := ⟨_, rfl⟩
  have BY := Lib.hid (bytes_n D xs m q w1 EM.out HS.out (by omega))
  rcases hz with ⟨hlt, hm⟩ | ⟨hlt, hm⟩
  · obtain rfl : m = 200 := EM.out.symm.trans hm
    clear hm
    go_wp2_with fail
    refine BY.out.mono ?_
    rintro e w2 ⟨D', q', rfl, ho, hb⟩
    rw [EM.out]
    have hp2 := HP.out.below hb HP.out.lt
    have hr2 := HR.out.below hb HR.out.lt
    have y8 := hp2.free 8
    have z8 : w2.cell? ⟨gp, 8, none⟩ = some (.slice D n q) := hp2.cell 8
    have hp5 : Blk (w2.setCell ⟨gp, 8, none⟩ (.slice D' 200 q')) gp 33 (pkV id at_ life kind wh mo f t D' 200 q') := hp2.set 8 _
    have HNE : gr ≠ gp := by have := EGR.out; have := EGP.out; omega
    have hr5 := hr2.far (p := ⟨gp, 8, none⟩) HNE (.slice D' 200 q')
    have ho5 := ho.past hp2 (by decide) 8 (.slice D' 200 q')
    have hb5 := (HB.out.trans (hb.mono HB.out.size)).setCell (p := ⟨gp, 8, none⟩) (by have := EGP.out; show w.heap.size ≤ gp; omega) (.slice D' 200 q')
    have HP5 := Lib.hid hp5
    have HR5 := Lib.hid hr5
    have HO5 := Lib.hid (ho5.base (B' := w.heap.size) (by have := HB.out.size; omega))
    have HB5 := Lib.hid hb5
    clear hp2 hr2 hp5 hr5 ho5 hb5 ho hb HNE
    go_upto_region 2 with fail
    clear z8 y8 p8
    generalize w2.setCell ⟨gp, 8, none⟩ (.slice D' 200 q') = w4 at HP5 HR5 HO5 HB5 ⊢
    obtain ⟨h0, h1, h2, h3, h4, h5, h6, h7, h8⟩ := HP5.out.cells9
    obtain ⟨z0, z1, z2, z3, z4, z5, z6, z7, z8⟩ := HR5.out.cells9
    obtain ⟨f0', f1', f2', f3', f4', f5', f6', f7', f8'⟩ := HR5.out.frees9
    have st := HR5.out.store9 (.int .i64 id) (.int .i64 at_) (.int .i64 life) (.int .i64 kind) (.bool wh) (.bool mo) (.int .u32 f) (.int .u32 t) (.slice D' 200 q')
    have HST2 := Lib.hid st.1
    have HO6 := Lib.hid (HO5.out.grown HR5.out (by decide) st.2)
    have HB6 := Lib.hid (below_grown HB5.out st.2 (Nat.le_refl _) (by have := EGR.out; omega))
    clear st
    go_wp2_with fail
    clear z0 z1 z2 z3 z4 z5 z6 z7 z8 f0' f1' f2' f3' f4' f5' f6' f7' f8' h0 h1 h2 h3 h4 h5 h6 h7 h8
    generalize World.setCell _ _ (Value.slice D' 200 q') = w5 at HST2 HO6 HB6 ⊢
    obtain ⟨d0, d1, d2, d3, d4, d5, d6, d7, d8⟩ := HST2.out.cells9
    exact bodyPost_ret (v := .agg (pkV id at_ life kind wh mo f t D' 200 q')) (by simp [results, Try.results9, go_sem, d0, d1, d2, d3, d4, d5, d6, d7, d8]) rfl ⟨D', q', by rw [EM.out], HO6.out, HB6.out⟩
  · obtain rfl : n = m := hm.symm.trans EM.out
    clear hm
    go_wp2_with fail
    refine BY.out.mono ?_
    rintro e w2 ⟨D', q', rfl, ho, hb⟩
    rw [EM.out]
    have hp2 := HP.out.below hb HP.out.lt
    have hr2 := HR.out.below hb HR.out.lt
    have y8 := hp2.free 8
    have z8 : w2.cell? ⟨gp, 8, none⟩ = some (.slice D n q) := hp2.cell 8
    have hp5 : Blk (w2.setCell ⟨gp, 8, none⟩ (.slice D' n q')) gp 33 (pkV id at_ life kind wh mo f t D' n q') := hp2.set 8 _
    have HNE : gr ≠ gp := by have := EGR.out; have := EGP.out; omega
    have hr5 := hr2.far (p := ⟨gp, 8, none⟩) HNE (.slice D' n q')
    have ho5 := ho.past hp2 (by decide) 8 (.slice D' n q')
    have hb5 := (HB.out.trans (hb.mono HB.out.size)).setCell (p := ⟨gp, 8, none⟩) (by have := EGP.out; show w.heap.size ≤ gp; omega) (.slice D' n q')
    have HP5 := Lib.hid hp5
    have HR5 := Lib.hid hr5
    have HO5 := Lib.hid (ho5.base (B' := w.heap.size) (by have := HB.out.size; omega))
    have HB5 := Lib.hid hb5
    clear hp2 hr2 hp5 hr5 ho5 hb5 ho hb HNE
    go_upto_region 2 with fail
    clear z8 y8 p8
    generalize w2.setCell ⟨gp, 8, none⟩ (.slice D' n q') = w4 at HP5 HR5 HO5 HB5 ⊢
    obtain ⟨h0, h1, h2, h3, h4, h5, h6, h7, h8⟩ := HP5.out.cells9
    obtain ⟨z0, z1, z2, z3, z4, z5, z6, z7, z8⟩ := HR5.out.cells9
    obtain ⟨f0', f1', f2', f3', f4', f5', f6', f7', f8'⟩ := HR5.out.frees9
    have st := HR5.out.store9 (.int .i64 id) (.int .i64 at_) (.int .i64 life) (.int .i64 kind) (.bool wh) (.bool mo) (.int .u32 f) (.int .u32 t) (.slice D' n q')
    have HST2 := Lib.hid st.1
    have HO6 := Lib.hid (HO5.out.grown HR5.out (by decide) st.2)
    have HB6 := Lib.hid (below_grown HB5.out st.2 (Nat.le_refl _) (by have := EGR.out; omega))
    clear st
    go_wp2_with fail
    clear z0 z1 z2 z3 z4 z5 z6 z7 z8 f0' f1' f2' f3' f4' f5' f6' f7' f8' h0 h1 h2 h3 h4 h5 h6 h7 h8
    generalize World.setCell _ _ (Value.slice D' n q') = w5 at HST2 HO6 HB6 ⊢
    obtain ⟨d0, d1, d2, d3, d4, d5, d6, d7, d8⟩ := HST2.out.cells9
    exact bodyPost_ret (v := .agg (pkV id at_ life kind wh mo f t D' n q')) (by simp [results, Try.results9, go_sem, d0, d1, d2, d3, d4, d5, d6, d7, d8]) rfl ⟨D', q', by rw [EM.out], HO6.out, HB6.out⟩
end Go.Proofs.Ytpdkoooecnmjjaa
