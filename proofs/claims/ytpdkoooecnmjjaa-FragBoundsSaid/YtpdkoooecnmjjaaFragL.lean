/-
  A byte put into a whole.
-/
import Derived.Test.YtpdkoooecnmjjaaFragK
namespace Go.Proofs.Ytpdkoooecnmjjaa
open Go.RowKit
set_option linter.unusedVariables false

/-- The bytes of a piece put: the bytes, what is there, how many. -/
def putL : Nat → List UInt8 → List UInt8 × List Bool × Int → List UInt8 × List Bool × Int
  | _, [], s => s
  | k, b :: bs, s => putL (k + 1) bs (if s.2.1.getD k false then s else (s.1.set k b, s.2.1.set k true, s.2.2 + 1))
def putP (x : WP) (a : Nat) (d : List UInt8) (more : Bool) : WP :=
  { x with
    data := (putL a d (grownL 0 (a + d.length) x.data, grownL false (a + d.length) x.has, x.many)).1
    has := (putL a d (grownL 0 (a + d.length) x.data, grownL false (a + d.length) x.has, x.many)).2.1
    many := (putL a d (grownL 0 (a + d.length) x.data, grownL false (a + d.length) x.has, x.many)).2.2
    fin := if more then x.fin else ((a + d.length : Nat) : Int)
    hd := x.hd || a == 0
    pieces := x.pieces + 1 }
theorem putL_drop (a : Nat) (d : List UInt8) (s : List UInt8 × List Bool × Int) (i : Nat) (hi : i < d.length) :
    putL (a + i) (d.drop i) s = putL (a + (i + 1)) (d.drop (i + 1)) (if s.2.1.getD (a + i) false then s else (s.1.set (a + i) (d.getD i 0), s.2.1.set (a + i) true, s.2.2 + 1)) := by
  have e : d.drop i = d.getD i 0 :: d.drop (i + 1) := by
    rw [List.getD_eq_getElem?_getD, List.getElem?_eq_getElem hi]
    exact List.drop_eq_getElem_cons hi
  rw [e, putL]
  rfl
section
variable {w : World} {B : Nat} {y : WX}
theorem stD (o : WAt w B y) {dg : Nat} (hd : y.dA = some ⟨dg, 0, none⟩) (k : Nat) (u : UInt8) : WAt (w.setCell ⟨dg, k, none⟩ (.int .u8 (u.toNat : Int))) B { y with data := y.data.set k u } ∧ Frame (WF y) w (w.setCell ⟨dg, k, none⟩ (.int .u8 (u.toNat : Int))) := by
  have hF : Frame (WF y) w (w.setCell ⟨dg, k, none⟩ (.int .u8 (u.toNat : Int))) := (Frame.refl _ w).set (p := ⟨dg, k, none⟩) (.inl (.inr (.inl (by unfold dblk; rw [hd]; rfl)))) _
  have hF2 : Frame (fun i => i = dg) w (w.setCell ⟨dg, k, none⟩ (.int .u8 (u.toNat : Int))) := (Frame.refl (fun i => i = dg) w).set (p := ⟨dg, k, none⟩) (.inl rfl) _
  have od := o.data
  unfold Own at od
  rw [hd] at od
  have hv : (Value.slice (some ⟨dg, 0, none⟩) y.data.length y.dc).ownBlock = some dg := rfl
  obtain ⟨cs, hb⟩ := owns_typed od hv
  refine ⟨⟨?_, ?_, ?_, o.base, fun h hh => (o.head h hh).framed hF2 (fun e => ?_)⟩, hF⟩
  · have := o.blk.framed hF2 (fun e => owns_ne od o.blk (by decide) (by rw [hv, e]))
    simp only [wholeV, List.length_set]
    exact this
  · have h1 := (World.ownsRow.stored od k (.int .u8 (u.toNat : Int))).1
    unfold Own
    simp only [List.length_set, hd, List.map_set]
    exact h1
  · exact owns_framed o.has hF2 (fun i hi e => by
      subst e
      exact owns_ne o.has hb (by decide) hi)
  · subst e
    exact head_free o (o.head _ hh) (.inr (.inl (by unfold dblk; rw [hd]; rfl)))
theorem stH (o : WAt w B y) {hg : Nat} (hd : y.hA = some ⟨hg, 0, none⟩) (k : Nat) (u : Bool) : WAt (w.setCell ⟨hg, k, none⟩ (.bool u)) B { y with has := y.has.set k u } ∧ Frame (WF y) w (w.setCell ⟨hg, k, none⟩ (.bool u)) := by
  have hF : Frame (WF y) w (w.setCell ⟨hg, k, none⟩ (.bool u)) := (Frame.refl _ w).set (p := ⟨hg, k, none⟩) (.inl (.inr (.inr (by unfold hblk; rw [hd]; rfl)))) _
  have hF2 : Frame (fun i => i = hg) w (w.setCell ⟨hg, k, none⟩ (.bool u)) := (Frame.refl (fun i => i = hg) w).set (p := ⟨hg, k, none⟩) (.inl rfl) _
  have od := o.has
  unfold OwnB at od
  rw [hd] at od
  have hv : (Value.slice (some ⟨hg, 0, none⟩) y.has.length y.hc).ownBlock = some hg := rfl
  obtain ⟨cs, hb⟩ := owns_typed od hv
  refine ⟨⟨?_, ?_, ?_, o.base, fun h hh => (o.head h hh).framed hF2 (fun e => ?_)⟩, hF⟩
  · have := o.blk.framed hF2 (fun e => owns_ne od o.blk (by decide) (by rw [hv, e]))
    simp only [wholeV, List.length_set]
    exact this
  · exact owns_framed o.data hF2 (fun i hi e => by
      subst e
      exact owns_ne o.data hb (by decide) hi)
  · have h1 := (World.ownsRow.stored od k (.bool u)).1
    unfold OwnB
    simp only [List.length_set, hd, List.map_set]
    exact h1
  · subst e
    exact head_free o (o.head _ hh) (.inr (.inr (by unfold hblk; rw [hd]; rfl)))
/-- A cell of the whole itself. -/
theorem stC (o : WAt w B y) (i : Nat) (v : Value) (y' : WX) (hg : y'.g = y.g) (hc : wholeV y' = (wholeV y).set! i v) (h1 : y'.dA = y.dA ∧ y'.dc = y.dc ∧ y'.data = y.data ∧ y'.hA = y.hA ∧ y'.hc = y.hc ∧ y'.has = y.has) (hh : ∀ h, y'.head = some h → y.head = some h ∨ HeadAt w B h) :
    WAt (w.setCell ⟨y.g, i, none⟩ v) B y' ∧ Frame (WF y) w (w.setCell ⟨y.g, i, none⟩ v) := by
  have hF : Frame (WF y) w (w.setCell ⟨y.g, i, none⟩ v) := (Frame.refl _ w).set (p := ⟨y.g, i, none⟩) (.inl (.inl rfl)) _
  have hF2 : Frame (fun j => j = y.g) w (w.setCell ⟨y.g, i, none⟩ v) := (Frame.refl (fun j => j = y.g) w).set (p := ⟨y.g, i, none⟩) (.inl rfl) _
  obtain ⟨e1, e2, e3, e4, e5, e6⟩ := h1
  refine ⟨⟨?_, ?_, ?_, by rw [hg]; exact o.base, fun h hy => ?_⟩, hF⟩
  · rw [hg, hc]
    exact o.blk.set i v
  · rw [e1, e2, e3]
    exact owns_framed o.data hF2 (fun j hj e => by
      subst e
      exact owns_ne o.data o.blk (by decide) hj)
  · rw [e4, e5, e6]
    exact owns_framed o.has hF2 (fun j hj e => by
      subst e
      exact owns_ne o.has o.blk (by decide) hj)
  · have hq : HeadAt w B h := (hh h hy).elim (o.head h) id
    exact hq.framed hF2 (fun e => head_free o hq (.inl e))
end
end Go.Proofs.Ytpdkoooecnmjjaa
