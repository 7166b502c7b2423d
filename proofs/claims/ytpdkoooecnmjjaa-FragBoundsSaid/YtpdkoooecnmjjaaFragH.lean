/-
  The walk of find.
-/
import Derived.Test.YtpdkoooecnmjjaaFragG
import Derived.Deep.AppendLies
namespace Go.Proofs.Ytpdkoooecnmjjaa
open Go.RowKit
set_option linter.unusedVariables false
attribute [-go_sem] run_eql_struct run_equalIn_agg

/-- Has a whole this key? -/
def kB (f t kind id : Int) (x : WX) : Bool := keyB x.kf x.kt x.kk x.ki f t kind id
/-- A whole that begins now. -/
def freshX (g : Nat) (f t kind id now : Int) : WX := ⟨g, f, t, kind, id, now, 0, -1, none, none, 0, [], none, 0, [], 0⟩
abbrev freshV (f t kind id now : Int) : Array Value := #[.int .u32 f, .int .u32 t, .int .i64 kind, .int .i64 id, .int .i64 now, .int .i64 0, .int .i64 (-1), .pointer none, .slice none 0 0, .slice none 0 0, .int .i64 0]
theorem TAt.added {w w' : World} {B tb c : Nat} {wait now : Int} {A : Option Addr} {L : List WX} (t : TAt w B tb wait now A c L) {g : Nat} {f t' kind id : Int} {A' : Option Addr} {c' : Nat} (hF : Frame (TF tb A L.length c) w w')
    (hb : Blk w' tb 45 #[.int .i64 wait, .int .i64 now, .slice A' (L.length + 1) c', .bool true]) (hr : OwnP w' B A' c' ((L ++ [freshX g f t' kind id now]).map WX.g)) (hx : Blk w' g 60 (wholeV (freshX g f t' kind id now))) (hg : w.heap.size ≤ g) :
    TAt w' B tb wait now A' c' (L ++ [freshX g f t' kind id now]) := by
  have hB : B ≤ g := by have := t.base; have := t.lt; omega
  refine ⟨by rw [List.length_append]; exact hb, hr, fun x hx' => ?_, fun x hx' => ?_, ?_, t.base, t.n0, fun x hx' => ?_, t.w0, t.w1⟩
  · rcases List.mem_append.1 hx' with h | h
    · exact (t.each x h).framed hF (t.whole_free h).1 (t.whole_free h).2
    · rw [List.mem_singleton.1 h]
      exact ⟨hx, World.ownsRow_nil _ _ _ _, World.ownsRow_nil _ _ _ _, hB, fun _ h => by cases h⟩
  · rcases List.mem_append.1 hx' with h | h
    · exact t.inv x h
    · rw [List.mem_singleton.1 h]
      exact ⟨rfl, rfl, by simp [freshX], by simp [freshX], .inl rfl, fun h => by simp [freshX] at h, by simp [freshX]⟩
  · rw [List.pairwise_append]
    refine ⟨t.apart, List.pairwise_singleton _ _, fun a ha b hb' => ?_⟩
    rw [List.mem_singleton.1 hb']
    refine ⟨fun e => ?_, fun k _ h => by simp [dblk, freshX, Value.ownBlock] at h, fun k _ h => by simp [hblk, freshX, Value.ownBlock] at h⟩
    have := (t.each a ha).blk.lt
    have e' : a.g = g := e
    omega
  · rcases List.mem_append.1 hx' with h | h
    · exact t.bg x h
    · rw [List.mem_singleton.1 h]
      exact ⟨t.n0, Int.le_refl _⟩

/-- What find answers. -/
def FindR (B tb : Nat) (wait now : Int) (A : Option Addr) (c : Nat) (L : List WX) (f t kind id : Int) (w : World) (e : Ending) (w' : World) : Prop :=
  (∃ (k : Nat) (x : WX), L[k]? = some x ∧ kB f t kind id x = true ∧ (∀ j, j < k → ∀ y, L[j]? = some y → kB f t kind id y = false) ∧ e = .returned (.tuple #[PV x.g, .int .i64 0]) ∧ Below w.heap.size w w') ∨
  ((∀ x ∈ L, kB f t kind id x = false) ∧ L.length = 8 ∧ e = .returned (.tuple #[.pointer none, .int .i64 4]) ∧ Below w.heap.size w w') ∨
  ((∀ x ∈ L, kB f t kind id x = false) ∧ L.length ≠ 8 ∧ ∃ g A' c', e = .returned (.tuple #[PV g, .int .i64 0]) ∧ TAt w' B tb wait now A' c' (L ++ [freshX g f t kind id now]) ∧ Frame (TF tb A L.length c) w w' ∧ w.heap.size ≤ g)

set_option maxHeartbeats 8000000 in
set_option maxRecDepth 100000 in
theorem find_any {w : World} {B tb c : Nat} {wait now : Int} {A : Option Addr} {L : List WX} (t : TAt w B tb wait now A c L) (id at_ life kind : Int) (wh mo : Bool) (f t' : Int) (D : Option Addr) (n q : Nat) (hl : L.length ≤ 1000) :
    Calls Try.prog 16 #[PV tb, .agg (pkV id at_ life kind wh mo f t' D n q)] w (FindR B tb wait now A c L f t' kind id w) := by
  have hb1 : Below w.heap.size w (w.alloc (.cells (pkV id at_ life kind wh mo f t' D n q) 33)) := (Below.refl _ _).alloc (Nat.le_refl _) _
  have hbp := blk_new w 33 (pkV id at_ life kind wh mo f t' D n q)
  have t1 := t.below hb1
  have HT := Lib.hid t
  have hlt := t.lt
  clear t
  go_enter Try.func16, Try.ntmps16
  have c2 : (w.alloc (.cells (pkV id at_ life kind wh mo f t' D n q) 33)).cell? ⟨tb, 2, none⟩ = some (.slice A L.length c) := t1.blk.cell 2
  go_upto_region 1 with fail
  generalize w.alloc (.cells (pkV id at_ life kind wh mo f t' D n q) 33) = w1 at *
  obtain ⟨gp, EGP⟩ : ∃ z, Hid (w.heap.size = z) := ⟨_, rfl⟩
  rw [EGP.out] at hbp ⊢
  have IDX := Lib.hid (index_any 27 #[.pointer (some ⟨gp, 0, none⟩)] (onG L (kB f t' kind id)) (L.map WX.g) B A c w1 (enters' Try.func27 (by kernel_rfl) rfl) t1.row
    (fun W a ha hg => by
      obtain ⟨y, hy, rfl⟩ := List.mem_map.1 ha
      have hy1 : Blk W y.g 60 (wholeV y) := (hg.block y.g (t1.each y hy).blk.lt (by simp)).trans (t1.each y hy).blk
      have hp1 : Blk W gp 33 (pkV id at_ life kind wh mo f t' D n q) := (hg.block gp hbp.lt (by simp)).trans hbp
      rw [onG_mem t1.apart hy]
      exact find1_any W y.g gp y.kf y.kt y.kk y.ki id at_ life kind wh mo f t' D n q (hy1.cell 0) (hy1.cell 1) (hy1.cell 2) (hy1.cell 3) hp1) (by simpa using hl))
  rw [List.length_map] at IDX
  have HT1 := Lib.hid t1
  have HB1 := Lib.hid hb1
  have HBP := Lib.hid hbp
  clear t1 hb1 hbp
  obtain ⟨ll, ELL⟩ : ∃ z, Hid (L.length = z) := ⟨_, rfl⟩
  have hll : ll ≤ 1000 := by rw [← ELL.out]; exact hl
  rw [ELL.out] at c2 IDX
  go_wp2_with fail
  refine IDX.out.mono ?_
  rintro e w2 ⟨r, rfl, hb, hcase⟩
  have HT2 := Lib.hid (HT1.out.below hb)
  have HB2 := Lib.hid (HB1.out.trans (hb.mono HB1.out.size))
  have HBP2 := Lib.hid (HBP.out.below hb HBP.out.lt)
  clear hb c2 IDX
  have c2 : w2.cell? ⟨tb, 2, none⟩ = some (.slice A ll c) := by have := HT2.out.blk.cell 2; rw [ELL.out] at this; exact this
  rcases hcase with ⟨rfl, hno⟩ | ⟨k, a, rfl, hk, hpa, hno⟩
  · have hno' : ∀ x ∈ L, kB f t' kind id x = false := fun x hx => (onG_mem (f := kB f t' kind id) HT1.out.apart hx).symm.trans (hno x.g (List.mem_map.2 ⟨x, hx, rfl⟩))
    have HNO := Lib.hid hno'
    clear hno hno'
    by_cases h8 : ll = 8
    · have FUL : Hid (FindR B tb wait now A c L f t' kind id w (.returned (.tuple #[.pointer none, .int .i64 4])) w2) := .inr (.inl ⟨HNO.out, by rw [ELL.out, h8], rfl, HB2.out⟩)
      subst h8
      go_wp2_with fail
      go_ret2
      exact FUL.out
    · have d8 : ((ll : Int) == 8) = false := by simp; omega
      go_upto_region 6 with fail
      obtain ⟨p0, p1, p2, p3, p4, p5, p6, p7, p8⟩ := HBP2.out.cells9
      have n0 : w2.cell? ⟨tb, 1, none⟩ = some (.int .i64 now) := HT2.out.blk.cell 1
      go_region_held3 (fun w' => w'.cell? ⟨tb, 1, none⟩ = some (.int .i64 now) ∧ (w'.cell? ⟨gp, 0, none⟩ = some (.int .i64 id) ∧ w'.cell? ⟨gp, 1, none⟩ = some (.int .i64 at_) ∧ w'.cell? ⟨gp, 2, none⟩ = some (.int .i64 life) ∧ w'.cell? ⟨gp, 3, none⟩ = some (.int .i64 kind) ∧ w'.cell? ⟨gp, 4, none⟩ = some (.bool wh) ∧ w'.cell? ⟨gp, 5, none⟩ = some (.bool mo) ∧ w'.cell? ⟨gp, 6, none⟩ = some (.int .u32 f) ∧ w'.cell? ⟨gp, 7, none⟩ = some (.int .u32 t') ∧ w'.cell? ⟨gp, 8, none⟩ = some (.slice D n q)))
        (first | (with_reducible assumption) | (refine ⟨?_, ?_, ?_, ?_, ?_, ?_, ?_, ?_, ?_, ?_⟩ <;> first | (with_reducible assumption) | ((with_reducible refine cell_alloc_old ?_); with_reducible assumption)) | (exact ⟨n0, HBP2.out.cells9⟩))
        ((go_at_call 28
          refine (keyOf_any id at_ life kind wh mo f t' D n q _).mono ?_
          rintro e w3 ⟨rfl, hb⟩
          have HT3 := Lib.hid (HT2.out.below (below_dr1 hb))
          have HB3 := Lib.hid (HB2.out.trans ((below_dr1 hb).mono HB2.out.size))
          have HBP3 := Lib.hid (HBP2.out.below (below_dr1 hb) HBP2.out.lt)
          have N3 : w3.cell? ⟨tb, 1, none⟩ = some (.int .i64 now) := HT3.out.blk.cell 1
          obtain ⟨q0, q1, q2, q3, q4, q5, q6, q7, q8⟩ := HBP3.out.cells9
          clear hb))
      all_goals
        have hbx : Blk (w3.alloc (.cells (freshV f t' kind id now) 60)) w3.heap.size 60 (freshV f t' kind id now) := blk_new _ _ _
        have hb4 : Below w3.heap.size w3 (w3.alloc (.cells (freshV f t' kind id now) 60)) := (Below.refl _ _).alloc (Nat.le_refl _) _
        have t4 := HT3.out.below hb4
        have HB4 := Lib.hid (HB3.out.trans (hb4.mono HB3.out.size))
        clear hb4 p0 p1 p2 p3 p4 p5 p6 p7 p8 n0
        generalize w3.alloc (.cells (freshV f t' kind id now) 60) = w4 at *
        have hgx : w.heap.size ≤ w3.heap.size := HB3.out.size
        generalize w3.heap.size = gx at *
        have hgx4 : gx < w4.heap.size := hbx.lt
        have HT4 := Lib.hid t4
        have HBX := Lib.hid hbx
        have c4 : w4.cell? ⟨tb, 2, none⟩ = some (.slice A ll c) := by have := t4.blk.cell 2; rw [ELL.out] at this; exact this
        have hrow := t4.row
        unfold OwnP at hrow
        rw [List.length_map, ELL.out] at hrow
        have HROW := Lib.hid hrow
        have hBs : B ≤ w4.heap.size := by have := t4.base; have := t4.lt; omega
        obtain ⟨i0, hi, hz0, hz1, hz2⟩ := info_parts' info_ptr
        have ha5 : Below w4.heap.size w4 (w4.alloc (.cells #[PV gx] 48)) := (Below.refl _ _).alloc (Nat.le_refl _) _
        have HO : Hid ((w4.alloc (.cells #[PV gx] 48)).ownsRow B 48 1 (.slice A ll c) ll ((L.map WX.g).map PV)) := owns_framed hrow (Frame.of_below (F := fun _ => False) ha5) (fun _ _ h => h)
        have HT5 := Lib.hid (t4.below ha5)
        have HBX5 := Lib.hid (hbx.below ha5 hbx.lt)
        have HF5 : Hid (Frame (TF tb A L.length c) w (w4.alloc (.cells #[PV gx] 48))) := (Frame.of_below HB4.out).trans (Frame.of_below (F := fun _ => False) ha5) (fun _ h => h.elim)
        have FIN : Hid (∀ (r cap : Nat) (w6 : World), w6.ownsRow B 48 1 (.slice (some ⟨r, 0, none⟩) (ll + 1) cap) (ll + 1) ((L.map WX.g).map PV ++ [PV gx]) →
            (w4.alloc (.cells #[PV gx] 48)).grownBy w6 (Value.slice A ll c).ownBlock →
            w6.frozen? ⟨tb, 2, none⟩ = false ∧ w6.cell? ⟨tb, 2, none⟩ = some (.slice A ll c) ∧ FindR B tb wait now A c L f t' kind id w (.returned (.tuple #[PV gx, .int .i64 0])) (w6.setCell ⟨tb, 2, none⟩ (.slice (some ⟨r, 0, none⟩) (ll + 1) cap))) := by
          intro r cap w6 ho hg
          have hbt : Blk w6 tb 45 #[.int .i64 wait, .int .i64 now, .slice A L.length c, .bool true] := (hg.block tb HT5.out.blk.lt (fun e => owns_ne HO.out HT5.out.blk (by decide) e.symm)).trans HT5.out.blk
          have hbw : Blk w6 gx 60 (freshV f t' kind id now) := (hg.block gx HBX5.out.lt (fun e => owns_ne HO.out HBX5.out (by decide) e.symm)).trans HBX5.out
          refine ⟨hbt.free 2, by have := hbt.cell 2; rw [ELL.out] at this; exact this, .inr (.inr ⟨HNO.out, by rw [ELL.out]; exact h8, gx, some ⟨r, 0, none⟩, cap, rfl, ?_, ?_, hgx⟩)⟩
          · refine HT.out.added (A' := some ⟨r, 0, none⟩) (c' := cap) ?_ ?_ ?_ (hbw.far (p := ⟨tb, 2, none⟩) (by have := HT.out.lt; simp; omega) _) hgx
            · refine ((HF5.out.grown hg (fun k hk => .inl (.inr (by rw [ELL.out]; exact hk)))).set (p := ⟨tb, 2, none⟩) (.inl (.inl rfl)) _)
            · rw [ELL.out]
              have := hbt.set 2 (.slice (some ⟨r, 0, none⟩) (ll + 1) cap)
              exact this
            · have h1 : ((L ++ [freshX gx f t' kind id now]).map WX.g).map PV = (L.map WX.g).map PV ++ [PV gx] := by simp [freshX]
              have h2 : ((L ++ [freshX gx f t' kind id now]).map WX.g).length = ll + 1 := by simp [ELL.out]
              unfold OwnP
              rw [h1, h2]
              refine owns_framed ho ((Frame.refl (fun k => k = tb) w6).set (p := ⟨tb, 2, none⟩) (.inl rfl) _) (fun k hk e => by
                subst e
                exact owns_ne ho hbt (by decide) hk)
          · exact ((HF5.out.grown hg (fun k hk => .inl (.inr (by rw [ELL.out]; exact hk)))).set (p := ⟨tb, 2, none⟩) (.inl (.inl rfl)) _)
        clear t4 hbx ha5 hrow c2
        go_wp2_with (at_builtin; go_loud (refine wpList_append_lies _ rfl _ _ _ rfl B 48 i0 _ 1 8 Try.underlying43 hi hz0 hz1 hz2 rfl (by decide) (.slice A ll c) ll ((L.map WX.g).map PV) rfl HO.out ⟨w4.heap.size, 0, none⟩ 1 1 [PV gx] rfl rfl (World.news_of_block (cs := #[PV gx]) (t := 48) (fr := (0, 0)) (heap_alloc_new w4 _)) (by simp [Value.oneCell']) (by omega) (by simp only [maxLen]; omega) (by omega) (by simp; omega) (w4.heap.size + 1) (by simp) ?_; intro r cap w6 ho hg hat hlt; have FZ := FIN.out r cap w6 ho hg; have fz := FZ.1; have cz := FZ.2.1))
        go_ret2
        exact FZ.2.2
  · rw [List.getElem?_map] at hk
    obtain ⟨x, hx, rfl⟩ := Option.map_eq_some_iff.1 hk
    have hkl : k < ll := by rw [← ELL.out]; exact (List.getElem?_eq_some_iff.1 hx).1
    have FND : Hid (FindR B tb wait now A c L f t' kind id w (.returned (.tuple #[PV x.g, .int .i64 0])) w2) := .inl ⟨k, x, hx, (onG_mem (f := kB f t' kind id) HT1.out.apart (List.mem_of_getElem? hx)).symm.trans hpa, fun j hj y hy => by
      have := hno j hj y.g (by rw [List.getElem?_map, hy]; rfl)
      rw [onG_mem HT1.out.apart (List.mem_of_getElem? hy)] at this
      exact this, rfl, HB2.out⟩
    clear hno
    rcases HT2.out.row.form with ⟨_, h0, _⟩ | ⟨g, rfl, hg1, hg2⟩
    · have := ELL.out
      rw [List.map_eq_nil_iff.1 h0] at this
      simp at this
      omega
    · have ck := HT2.out.row.cell k x.g (by rw [List.getElem?_map, hx]; rfl)
      have hk0 : (0 : Int) ≤ (k : Int) := Int.natCast_nonneg k
      have hk1 : (k : Int) < (ll : Int) := by omega
      clear hx hk hpa hg1 hg2
      go_wp2_with fail
      go_ret2
      exact FND.out
end Go.Proofs.Ytpdkoooecnmjjaa
