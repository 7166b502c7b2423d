/-
  The walk of grow.
-/
import Derived.Test.YtpdkoooecnmjjaaFragI
namespace Go.Proofs.Ytpdkoooecnmjjaa
open Go.RowKit
set_option linter.unusedVariables false

/-- With room for n. -/
def grownL {α : Type} (z : α) (n : Nat) (xs : List α) : List α := xs ++ List.replicate (n - xs.length) z
/-- What grow leaves. -/
def GrowR (B : Nat) (x : WX) (n : Nat) (w : World) (e : Ending) (w' : World) : Prop :=
  e = .returned (.tuple #[]) ∧ ∃ x' : WX, Later w.heap.size x x' ∧ WAt w' B x' ∧ x'.head = x.head ∧ x'.pure = { x.pure with data := grownL 0 n x.data, has := grownL false n x.has } ∧ Frame (WF x) w w'
theorem info_u8' : (Try.prog.info? 5).map (fun i => (i.zero, i.size, i.bytes)) = some (some (.int .u8 0), 1, 1) := by kernel_rfl

set_option maxHeartbeats 8000000 in
set_option maxRecDepth 100000 in
theorem grow_any {w : World} {B : Nat} {x : WX} (o : WAt w B x) (hlen : x.has.length = x.data.length) (n : Nat) (N : Int) (hN : (n : Int) = N) (hN1 : N ≤ 70000) (hd : (x.data.length : Int) ≤ 70000) :
    Calls Try.prog 29 #[PV x.g, .int .i64 N] w (GrowR B x n w) := by
  have HO := Lib.hid o
  have c8 : w.cell? ⟨x.g, 8, none⟩ = some (.slice x.dA x.data.length x.dc) := o.blk.cell 8
  have c9 : w.cell? ⟨x.g, 9, none⟩ = some (.slice x.hA x.has.length x.hc) := o.blk.cell 9
  have f8 := o.blk.free 8
  have f9 := o.blk.free 9
  rw [hlen] at c9
  have HNN := Lib.hid hN
  have HN1 := Lib.hid hN1
  have HD := Lib.hid hd
  have HLEN := Lib.hid hlen
  have N0 : Hid (0 ≤ N) := by show _ ≤ _; omega
  obtain ⟨dl, EDL⟩ : ∃ z, Hid (x.data.length = z) := ⟨_, rfl⟩
  rw [EDL.out] at c8 c9
  have hsub : wrap64 (N - (dl : Int)) = N - (dl : Int) := IntWalk.wrap64_in _ ⟨by have := EDL.out; omega, by have := EDL.out; omega⟩
  clear o hN hN1 hd hlen
  by_cases hle : n ≤ dl
  · have hneg : ¬ (0 : Int) < N - (dl : Int) := by have := HNN.out; omega
    have FIN : Hid (GrowR B x n w (.returned (.tuple #[])) w) := by
      refine ⟨rfl, x, Later.refl _ _, HO.out, rfl, ?_, Frame.refl _ _⟩
      have e1 : n - x.data.length = 0 := by rw [EDL.out]; omega
      have e2 : n - x.has.length = 0 := by rw [HLEN.out, EDL.out]; omega
      simp only [grownL, e1, e2, List.replicate_zero, List.append_nil]
      rfl
    clear hle
    go_enter Try.func29, Try.ntmps29
    go_wp2_with fail
    go_end0
    exact FIN.out
  · obtain ⟨m, EM⟩ : ∃ z : Nat, Hid (n - dl = z) := ⟨_, rfl⟩
    have hm0 : 0 < m := by have := EM.out; omega
    have hmi : N - (dl : Int) = (m : Int) := by have := EM.out; have := HNN.out; omega
    have HM1 : Hid (m ≤ 1000000) := by have := EM.out; have := HNN.out; have := HN1.out; show _ ≤ _; omega
    have HM0 := Lib.hid hm0
    replace hsub := hsub.trans hmi
    have hpos : (0 : Int) < (m : Int) := by omega
    have hDL : dl ≤ 1000000 := by have := HD.out; rw [EDL.out] at this; omega
    have HDL := Lib.hid hDL
    have hlt := HO.out.blk.lt
    have hBs : B ≤ w.heap.size := by have := HO.out.base; omega
    have HBS := Lib.hid hBs
    obtain ⟨i0, hi, hz0, hz1, hz2⟩ := info_parts' info_u8'
    obtain ⟨j0, hj, jz0, jz1, jz2⟩ := info_parts' info_bool
    have OD : Hid (w.ownsRow B 5 1 (.slice x.dA dl x.dc) dl (x.data.map bval)) := by have := HO.out.data; unfold Own at this; rw [EDL.out] at this; exact this
    have FA : Hid (∀ (g cap : Nat) (w1 : World), w1.ownsRow B 5 1 (.slice (some ⟨g, 0, none⟩) (dl + m) cap) (dl + m) (x.data.map bval ++ List.replicate m (.int .u8 0)) → w.grownBy w1 (Value.slice x.dA dl x.dc).ownBlock → ((Value.slice x.dA dl x.dc).ownBlock = some g ∨ g = w.heap.size) → g < w1.heap.size →
        w1.frozen? ⟨x.g, 8, none⟩ = false ∧ w1.cell? ⟨x.g, 8, none⟩ = some (.slice x.dA dl x.dc) ∧ ((w1.setCell ⟨x.g, 8, none⟩ (.slice (some ⟨g, 0, none⟩) (dl + m) cap)).cell? ⟨x.g, 9, none⟩ = some (.slice x.hA dl x.hc) ∧
        (w1.setCell ⟨x.g, 8, none⟩ (.slice (some ⟨g, 0, none⟩) (dl + m) cap)).ownsRow B 4 1 (.slice x.hA dl x.hc) dl (x.has.map Value.bool) ∧ B ≤ (w1.setCell ⟨x.g, 8, none⟩ (.slice (some ⟨g, 0, none⟩) (dl + m) cap)).heap.size) ∧
        ∀ (g' cap' : Nat) (w2 : World), w2.ownsRow B 4 1 (.slice (some ⟨g', 0, none⟩) (dl + m) cap') (dl + m) (x.has.map Value.bool ++ List.replicate m (.bool false)) → (w1.setCell ⟨x.g, 8, none⟩ (.slice (some ⟨g, 0, none⟩) (dl + m) cap)).grownBy w2 (Value.slice x.hA dl x.hc).ownBlock →
          ((Value.slice x.hA dl x.hc).ownBlock = some g' ∨ g' = (w1.setCell ⟨x.g, 8, none⟩ (.slice (some ⟨g, 0, none⟩) (dl + m) cap)).heap.size) → g' < w2.heap.size → w2.frozen? ⟨x.g, 9, none⟩ = false ∧ w2.cell? ⟨x.g, 9, none⟩ = some (.slice x.hA dl x.hc) ∧ GrowR B x n w (.returned (.tuple #[])) (w2.setCell ⟨x.g, 9, none⟩ (.slice (some ⟨g', 0, none⟩) (dl + m) cap'))) := by
      intro g cap w1 ho hg hat hlt1
      have hown := HO.out.has
      unfold OwnB at hown
      rw [HLEN.out, EDL.out] at hown
      have hb1 : Blk w1 x.g 60 (wholeV x) := (hg.block _ HO.out.blk.lt (fun e => owns_ne OD.out HO.out.blk (by decide) e.symm)).trans HO.out.blk
      have hF1 : Frame (WF x) w w1 := (Frame.refl _ w).grown hg (fun k hk => .inl (.inr (.inl (by unfold dblk; rw [EDL.out]; exact hk))))
      have hF2 : Frame (WF x) w (w1.setCell ⟨x.g, 8, none⟩ (.slice (some ⟨g, 0, none⟩) (dl + m) cap)) := hF1.set (p := ⟨x.g, 8, none⟩) (.inl (.inl rfl)) _
      have hb2 := hb1.set 8 (.slice (some ⟨g, 0, none⟩) (dl + m) cap)
      have hh1 : w1.ownsRow B 4 1 (.slice x.hA dl x.hc) dl (x.has.map Value.bool) := owns_framed hown ((Frame.refl (fun k => (Value.slice x.dA dl x.dc).ownBlock = some k) w).grown hg (fun k hk => .inl hk)) (fun k h1 h2 => by
        obtain ⟨cs, hb⟩ := owns_typed hown h1
        exact owns_ne OD.out hb (by decide) h2)
      have hh2 : (w1.setCell ⟨x.g, 8, none⟩ (.slice (some ⟨g, 0, none⟩) (dl + m) cap)).ownsRow B 4 1 (.slice x.hA dl x.hc) dl (x.has.map Value.bool) := owns_framed hh1 ((Frame.refl (fun k => k = x.g) w1).set (p := ⟨x.g, 8, none⟩) (.inl rfl) _) (fun k h1 h2 => by
        subst h2
        exact owns_ne hh1 hb1 (by decide) h1)
      have hd2 : (w1.setCell ⟨x.g, 8, none⟩ (.slice (some ⟨g, 0, none⟩) (dl + m) cap)).ownsRow B 5 1 (.slice (some ⟨g, 0, none⟩) (dl + m) cap) (dl + m) (x.data.map bval ++ List.replicate m (.int .u8 0)) := owns_framed ho ((Frame.refl (fun k => k = x.g) w1).set (p := ⟨x.g, 8, none⟩) (.inl rfl) _) (fun k h1 h2 => by
        subst h2
        exact owns_ne ho hb1 (by decide) h1)
      refine ⟨hb1.free 8, by have := hb1.cell 8; rw [← EDL.out]; exact this, ⟨by have h9 : (w1.setCell ⟨x.g, 8, none⟩ (.slice (some ⟨g, 0, none⟩) (dl + m) cap)).cell? ⟨x.g, 9, none⟩ = some (.slice x.hA x.has.length x.hc) := hb2.cell 9; rw [HLEN.out, EDL.out] at h9; exact h9, hh2, Nat.le_trans HBS.out hF2.size⟩, ?_⟩
      intro g' cap' w2 ho' hg' hat' hlt2
      have hne2 : x.g ∉ (Value.slice x.hA dl x.hc).ownBlock := fun e => owns_ne hh2 hb2 (by decide) e
      have hb3 : Blk w2 x.g 60 _ := (hg'.block x.g hb2.lt (fun e => hne2 e.symm)).trans hb2
      have h9' : w2.cell? ⟨x.g, 9, none⟩ = some (.slice x.hA x.has.length x.hc) := hb3.cell 9
      rw [HLEN.out, EDL.out] at h9'
      have hF3 : Frame (WF x) w w2 := hF2.grown hg' (fun k hk => .inl (.inr (.inr (by unfold hblk; rw [HLEN.out, EDL.out]; exact hk))))
      have hF4 : Frame (WF x) w (w2.setCell ⟨x.g, 9, none⟩ (.slice (some ⟨g', 0, none⟩) (dl + m) cap')) := hF3.set (p := ⟨x.g, 9, none⟩) (.inl (.inl rfl)) _
      have hb4 := Blk.set hb3 9 (.slice (some ⟨g', 0, none⟩) (dl + m) cap')
      have hd3 : w2.ownsRow B 5 1 (.slice (some ⟨g, 0, none⟩) (dl + m) cap) (dl + m) (x.data.map bval ++ List.replicate m (.int .u8 0)) := owns_framed hd2 ((Frame.refl (fun k => (Value.slice x.hA dl x.hc).ownBlock = some k) _).grown hg' (fun k hk => .inl hk)) (fun k h1 h2 => by
        obtain ⟨cs, hb⟩ := owns_typed hd2 h1
        exact owns_ne hh2 hb (by decide) h2)
      have hd4 : (w2.setCell ⟨x.g, 9, none⟩ (.slice (some ⟨g', 0, none⟩) (dl + m) cap')).ownsRow B 5 1 (.slice (some ⟨g, 0, none⟩) (dl + m) cap) (dl + m) (x.data.map bval ++ List.replicate m (.int .u8 0)) := owns_framed hd3 ((Frame.refl (fun k => k = x.g) w2).set (p := ⟨x.g, 9, none⟩) (.inl rfl) _) (fun k h1 h2 => by
        subst h2
        exact owns_ne hd3 hb3 (by decide) h1)
      have hh4 : (w2.setCell ⟨x.g, 9, none⟩ (.slice (some ⟨g', 0, none⟩) (dl + m) cap')).ownsRow B 4 1 (.slice (some ⟨g', 0, none⟩) (dl + m) cap') (dl + m) (x.has.map Value.bool ++ List.replicate m (.bool false)) := owns_framed ho' ((Frame.refl (fun k => k = x.g) w2).set (p := ⟨x.g, 9, none⟩) (.inl rfl) _) (fun k h1 h2 => by
        subst h2
        exact owns_ne ho' hb3 (by decide) h1)
      have e1 : grownL 0 n x.data = x.data ++ List.replicate m 0 := by unfold grownL; rw [EDL.out, EM.out]
      have e2 : grownL false n x.has = x.has ++ List.replicate m false := by unfold grownL; rw [HLEN.out, EDL.out, EM.out]
      have l1 : (x.data ++ List.replicate m (0 : UInt8)).length = dl + m := by rw [List.length_append, EDL.out, List.length_replicate]
      have l2 : (x.has ++ List.replicate m false).length = dl + m := by rw [List.length_append, HLEN.out, EDL.out, List.length_replicate]
      refine ⟨hb3.free 9, h9', rfl, { x with dA := some ⟨g, 0, none⟩, dc := cap, data := x.data ++ List.replicate m 0, hA := some ⟨g', 0, none⟩, hc := cap', has := x.has ++ List.replicate m false }, ⟨rfl, fun k hk => ?_, fun k hk => ?_⟩, ⟨?_, ?_, ?_, HO.out.base, fun h hh => (HO.out.head h hh).framed hF4 (head_free HO.out (HO.out.head h hh))⟩, rfl, ?_, hF4⟩
      · have hk' : g = k := by simpa [dblk, Value.ownBlock] using hk
        subst hk'
        rcases hat with h | h
        · exact .inl (by unfold dblk; rw [EDL.out]; exact h)
        · exact .inr (by omega)
      · have hk' : g' = k := by simpa [hblk, Value.ownBlock] using hk
        subst hk'
        rcases hat' with h | h
        · exact .inl (by unfold hblk; rw [HLEN.out, EDL.out]; exact h)
        · exact .inr (by have := hF2.size; omega)
      · show Blk _ _ _ _
        simp only [wholeV, l1, l2]
        exact hb4
      · show Own _ _ _ _ _
        unfold Own
        simp only [l1, List.map_append, List.map_replicate]
        exact hd4
      · show OwnB _ _ _ _ _
        unfold OwnB
        simp only [l2, List.map_append, List.map_replicate]
        exact hh4
      · simp only [WX.pure, e1, e2]
    clear hle hmi hDL hm0 hlt hBs c9 f9
    go_enter Try.func29, Try.ntmps29
    go_wp2_with (at_builtin; (first | (refine wpList_appmake _ rfl _ _ _ _ rfl B 5 _ i0 (.int .u8 0) Try.underlying31 Try.underlying3 hi hz0 rfl rfl hz1 hz2 (.slice x.dA dl x.dc) dl (x.data.map bval) rfl OD.out m (by first | rfl | exact congrArg (Value.int .i64) hsub) HM0.out HM1.out HDL.out HBS.out ?_; intro g cap w1 ho hg hat hlt; have FB := FA.out g cap w1 ho hg hat hlt; have fb := FB.1; have cb := FB.2.1; have FC := Lib.hid FB.2.2.2; have FD := Lib.hid FB.2.2.1; have cc := FB.2.2.1.1; clear FB ho hg hat hlt) | (go_loud (refine wpList_appmake _ rfl _ _ _ _ rfl B 4 _ j0 (.bool false) Try.underlying58 Try.underlying3 hj jz0 rfl rfl jz1 jz2 (.slice x.hA dl x.hc) dl (x.has.map Value.bool) rfl FD.out.2.1 m (by first | rfl | exact congrArg (Value.int .i64) hsub) HM0.out HM1.out HDL.out FD.out.2.2 ?_; intro g' cap' w2 ho hg hat hlt; have FE := FC.out g' cap' w2 ho hg hat hlt; have fe := FE.1; have ce := FE.2.1; have FF := Lib.hid FE.2.2; clear FE ho hg hat hlt))))
    go_end0
    exact FF.out
end Go.Proofs.Ytpdkoooecnmjjaa
