/-
  The walk of drop.
-/
import Derived.Test.YtpdkoooecnmjjaaFragD
namespace Go.Proofs.Ytpdkoooecnmjjaa
open Go.RowKit
set_option linter.unusedVariables false

/-- What drop leaves. -/
def DropR (B tb : Nat) (wait n : Int) (A : Option Addr) (c : Nat) (L : List WX) (w : World) (e : Ending) (w' : World) : Prop :=
  e = .returned (.int .i64 ((L.length : Int) - (L.filter fun x => !oldB wait n x).length)) ∧ TAt w' B tb wait n A c (L.filter fun x => !oldB wait n x) ∧ Frame (TF tb A L.length c) w w'
theorem TAt.setNow {w : World} {B tb c : Nat} {wait now : Int} {A : Option Addr} {L : List WX} (t : TAt w B tb wait now A c L) (n : Int) (hn : now ≤ n) : TAt (w.setCell ⟨tb, 1, none⟩ (.int .i64 n)) B tb wait n A c L := by
  have hf : Frame (TF tb A L.length c) w (w.setCell ⟨tb, 1, none⟩ (.int .i64 n)) := (Frame.refl _ w).set (p := ⟨tb, 1, none⟩) (.inl (.inl rfl)) _
  refine ⟨t.blk.set 1 _, owns_framed t.row ((Frame.refl (fun k => k = tb) w).set (p := ⟨tb, 1, none⟩) (.inl rfl) _) (fun k hk e => by subst e; exact owns_ne t.row t.blk (by decide) hk), fun x hx => (t.each x hx).framed hf (t.whole_free hx).1 (t.whole_free hx).2, t.inv, t.apart, t.base, Int.le_trans t.n0 hn, fun x hx => ⟨(t.bg x hx).1, Int.le_trans (t.bg x hx).2 hn⟩, t.w0, t.w1⟩

set_option maxHeartbeats 4000000 in
set_option maxRecDepth 100000 in
theorem drop_any {w : World} {B tb c : Nat} {wait now : Int} {A : Option Addr} {L : List WX} (t : TAt w B tb wait now A c L) (n : Int) (h0 : now ≤ n) (h1 : n ≤ 1099511627776) (hl : L.length ≤ 1000) :
    Calls Try.prog 14 #[.pointer (some ⟨tb, 0, none⟩), .int .i64 n] w (DropR B tb wait n A c L w) := by
  have hb1 : Below w.heap.size w ((w.alloc (.cells #[PV tb] 25)).alloc (.cells #[.int .i64 n] 3)) := ((Below.refl _ _).alloc (Nat.le_refl _) _).alloc (by simp) _
  have hgt : Blk ((w.alloc (.cells #[PV tb] 25)).alloc (.cells #[.int .i64 n] 3)) w.heap.size 25 #[PV tb] := blk_old (blk_new _ _ _) _
  have hgn : Blk ((w.alloc (.cells #[PV tb] 25)).alloc (.cells #[.int .i64 n] 3)) (w.heap.size + 1) 3 #[.int .i64 n] := by
    have := blk_new (w.alloc (.cells #[PV tb] 25)) 3 #[.int .i64 n]
    simpa using this
  have t1 := t.below hb1
  have HT := Lib.hid t
  have hlt1 := t1.lt
  have N0 : Hid (0 ≤ n) := Int.le_trans t.n0 h0
  clear t
  go_enter Try.func14, Try.ntmps14
  have c2 : ((w.alloc (.cells #[PV tb] 25)).alloc (.cells #[.int .i64 n] 3)).cell? ⟨tb, 2, none⟩ = some (.slice A L.length c) := t1.blk.cell 2
  have c1 : ((w.alloc (.cells #[PV tb] 25)).alloc (.cells #[.int .i64 n] 3)).cell? ⟨tb, 1, none⟩ = some (.int .i64 now) := t1.blk.cell 1
  have f1 := t1.blk.free 1
  have hF1 : Frame (TF tb A L.length c) w ((w.alloc (.cells #[PV tb] 25)).alloc (.cells #[.int .i64 n] 3)) := Frame.of_below hb1
  have e2 : w.heap.size ≤ ((w.alloc (.cells #[PV tb] 25)).alloc (.cells #[.int .i64 n] 3)).heap.size := hb1.size
  go_upto_region 1 with fail
  generalize (w.alloc (.cells #[PV tb] 25)).alloc (.cells #[.int .i64 n] 3) = w1 at *
  have x0 : w1.cell? ⟨w.heap.size, 0, none⟩ = some (PV tb) := hgt.cell 0
  have x1 : w1.cell? ⟨w.heap.size + 1, 0, none⟩ = some (.int .i64 n) := hgn.cell 0
  have t2 := t1.setNow n h0
  have hneT : w.heap.size ≠ tb := by have := HT.out.lt; omega
  have hneN : w.heap.size + 1 ≠ tb := by have := HT.out.lt; omega
  have hgt2 := hgt.far (p := ⟨tb, 1, none⟩) hneT (.int .i64 n)
  have hgn2 := hgn.far (p := ⟨tb, 1, none⟩) hneN (.int .i64 n)
  have HF2 := Lib.hid (hF1.set (p := ⟨tb, 1, none⟩) (.inl (.inl rfl)) (.int .i64 n))
  go_upto_region 3 with fail
  clear c1 c2 f1 hgt hgn t1 hF1 hlt1 x0 x1 hb1
  generalize w1.setCell ⟨tb, 1, none⟩ (.int .i64 n) = w2 at *
  have hrow : ∀ k, (Value.slice A L.length c).ownBlock = some k → k < w.heap.size := fun k hk => by
    have hr := HT.out.row
    unfold OwnP at hr
    rw [List.length_map] at hr
    exact (World.ownsRow.lt hr k hk).2
  have hd2 : Below w2.heap.size w2 w2.drew := (show Drawn w2 w2.drew from ⟨1, rfl⟩).below _
  have t3 := t2.below hd2
  have hgt3 : Blk w2.drew w.heap.size 25 #[PV tb] := hgt2
  have hgn3 : Blk w2.drew (w.heap.size + 1) 3 #[.int .i64 n] := hgn2
  have HF3 : Hid (Frame (TF tb A L.length c) w w2.drew) := HF2.out.drewN 1
  have x2 : w2.cell? ⟨w.heap.size, 0, none⟩ = some (PV tb) := hgt2.cell 0
  have c2 : w2.cell? ⟨tb, 2, none⟩ = some (.slice A L.length c) := t2.blk.cell 2
  have HEQ : Hid ((L.map WX.g).filter (fun a => !onG L (oldB wait n) a) = (L.filter fun x => !oldB wait n x).map WX.g) := onG_filter t2.apart
  have DEL := Lib.hid (delete_any 25 #[.pointer (some ⟨w.heap.size + 1, 0, none⟩), .pointer (some ⟨w.heap.size, 0, none⟩)] (onG L (oldB wait n)) (L.map WX.g) B A c w2.drew (enters' Try.func25 (by kernel_rfl) rfl) t3.row
    (fun W a ha hg => by
      rw [List.length_map] at hg
      obtain ⟨y, hy, rfl⟩ := List.mem_map.1 ha
      have q1 : Blk W (w.heap.size + 1) 3 #[.int .i64 n] := (hg.block _ hgn3.lt (fun e => by have := hrow _ e.symm; omega)).trans hgn3
      have q2 : Blk W w.heap.size 25 #[PV tb] := (hg.block _ hgt3.lt (fun e => by have := hrow _ e.symm; omega)).trans hgt3
      have hr := t3.row
      unfold OwnP at hr
      rw [List.length_map] at hr
      have q3 := (hg.block tb t3.blk.lt (fun e => owns_ne hr t3.blk (by decide) e.symm)).trans t3.blk
      have q4 := (hg.block y.g (t3.each y hy).blk.lt (fun e => owns_ne hr (t3.each y hy).blk (by decide) e.symm)).trans (t3.each y hy).blk
      have hb := t3.bg y hy
      rw [onG_mem t3.apart hy]
      exact drop1_any W y.g _ _ tb wait n y.began (Blk.cell q1 0) (Blk.cell q2 0) (Blk.cell q3 0) (Blk.cell q4 4) N0.out h1 hb.1 (by omega)) (by rw [List.length_map]; exact hl))
  rw [List.length_map] at DEL
  obtain ⟨ll, ELL⟩ : ∃ z, Hid (L.length = z) := ⟨_, rfl⟩
  obtain ⟨fl, EFL⟩ : ∃ z, Hid ((L.filter fun x => !oldB wait n x).length = z) := ⟨_, rfl⟩
  have T3 := Lib.hid t3
  have GT3 := Lib.hid hgt3
  have HROW := Lib.hid hrow
  have ELF : Hid ((List.filter (fun a => !onG L (oldB wait n) a) (L.map WX.g)).length = fl) := by show _ = _; rw [HEQ.out, List.length_map, EFL.out]
  rw [ELL.out] at c2 DEL ⊢
  have hll : ll ≤ 1000 := by rw [← ELL.out]; exact hl
  have hfl : fl ≤ ll := by rw [← EFL.out, ← ELL.out]; exact List.length_filter_le _ _
  clear hrow hd2 t3 hgt3 hgn3 t2 hgt2 hgn2 hneT hneN hl HF2
  go_region_with (go_at_call 24; refine DEL.out.mono ?_; rintro e w4 ⟨rfl, ho, hg⟩; rw [ELF.out]; have HO := Lib.hid ho; rw [List.length_map] at hg; have hr := T3.out.row; unfold OwnP at hr; rw [List.length_map] at hr; have q3 : Blk w4 tb _ _ := (hg.block tb T3.out.blk.lt (fun e => owns_ne hr T3.out.blk (by decide) e.symm)).trans T3.out.blk; have q2 : Blk w4 w.heap.size _ _ := (hg.block _ GT3.out.lt (fun e => by have := HROW.out _ e.symm; omega)).trans GT3.out; have y0 := Blk.cell q2 0; have y2 := Blk.cell q3 2; have fy := Blk.free q3 2; have Q3 := Lib.hid q3; have HG := Lib.hid hg; rw [ELL.out] at y2; clear ho hg hr q3 q2)
  all_goals
    have p1 : OwnP (w4.setCell ⟨tb, 2, none⟩ (.slice A fl c)) B A c ((L.filter fun x => !oldB wait n x).map WX.g) := by
      have := HO.out
      rw [HEQ.out] at this
      exact owns_framed this ((Frame.refl (fun k => k = tb) w4).set (p := ⟨tb, 2, none⟩) (.inl rfl) _) (fun k hk e => by subst e; exact owns_ne this Q3.out (by decide) hk)
    have p2 : Blk (w4.setCell ⟨tb, 2, none⟩ (.slice A fl c)) tb 45 #[.int .i64 wait, .int .i64 n, .slice A (L.filter fun x => !oldB wait n x).length c, .bool true] := by rw [EFL.out]; exact Q3.out.set 2 _
    have p3 : Frame (TF tb A L.length c) w2.drew (w4.setCell ⟨tb, 2, none⟩ (.slice A fl c)) := ((Frame.refl _ _).grown HG.out (fun k hk => .inl (.inr hk))).set (p := ⟨tb, 2, none⟩) (.inl (.inl rfl)) _
    have p4 : Frame (TF tb A L.length c) w (w4.setCell ⟨tb, 2, none⟩ (.slice A fl c)) := HF3.out.trans p3 (fun i hi => .inl hi)
    have HFIN := Lib.hid (T3.out.filtered (fun x => !oldB wait n x) p1 p2 p3 (Int.le_refl _))
    have HP4 := Lib.hid p4
    have z0 : (w4.setCell ⟨tb, 2, none⟩ (.slice A fl c)).cell? ⟨w.heap.size, 0, none⟩ = some (PV tb) := by
      rw [World.cell?_setCell_other _ _ _ _ (by intro e; injection e with e; have := HT.out.lt; omega)]
      exact y0
    have z2 : (w4.setCell ⟨tb, 2, none⟩ (.slice A fl c)).cell? ⟨tb, 2, none⟩ = some (.slice A fl c) := by have := p2.cell 2; rw [EFL.out] at this; exact this
    clear p1 p2 p3 p4 y0 y2 fy x2 c2
    generalize w4.setCell ⟨tb, 2, none⟩ (.slice A fl c) = w5 at *
    go_wp2_with fail
    go_ret
    exact ⟨by rw [ELL.out, EFL.out]; rfl, HFIN.out, HP4.out⟩
end Go.Proofs.Ytpdkoooecnmjjaa
