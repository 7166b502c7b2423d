/-
  The walk of put.
-/
import Derived.Test.YtpdkoooecnmjjaaFragL
namespace Go.Proofs.Ytpdkoooecnmjjaa
open Go.RowKit
set_option linter.unusedVariables false

theorem own_free {w : World} {B Bd : Nat} {x : WX} {D : Option Addr} {q : Nat} {d : List UInt8} (hs : Own w Bd D q d) (o : WAt w B x) (hap : ∀ k, (Value.slice D d.length q).ownBlock = some k → dblk x ≠ some k) : ∀ k, (Value.slice D d.length q).ownBlock = some k → ¬ WF x k := by
  rintro k hk (rfl | h | h)
  · exact owns_ne hs o.blk (by decide) hk
  · exact hap k hk h
  · obtain ⟨cs, hb⟩ := owns_typed o.has h
    exact owns_ne hs hb (by decide) hk
theorem own_same (A : Option Addr) (n m c c' : Nat) : (Value.slice A n c).ownBlock = (Value.slice A m c').ownBlock := by
  cases A <;> simp [Value.ownBlock]
theorem WF_same {x y : WX} {j : Nat} (h : WF x j) (hg : x.g = y.g) (hd : x.dA = y.dA) (hh : x.hA = y.hA) : WF y j := by
  rcases h with h | h | h
  · exact .inl (h.trans hg)
  · refine .inr (.inl ?_)
    unfold dblk at h ⊢
    rw [← hd, own_same _ _ x.data.length _ x.dc]
    exact h
  · refine .inr (.inr ?_)
    unfold hblk at h ⊢
    rw [← hh, own_same _ _ x.has.length _ x.hc]
    exact h
/-- A whole whose rows and count have changed. -/
def WX.upd (x : WX) (D : List UInt8) (H : List Bool) (m : Int) : WX := { x with data := D, has := H, many := m }
/-- The state of put's loop. -/
structure PutS (w2 : World) (B : Nat) (x2 : WX) (a : Nat) (d : List UInt8) (S : List UInt8 × List Bool × Int) (i : Nat) (D : List UInt8) (H : List Bool) (m : Int) (wr : World) : Prop where
  wat : WAt wr B (x2.upd D H m)
  l1 : D.length = x2.data.length
  l2 : H.length = x2.data.length
  fr : Frame (WF x2) w2 wr
  eq : putL (a + i) (d.drop i) (D, H, m) = S
  m0 : 0 ≤ m
  m1 : m ≤ x2.many + i
/-- What put leaves. -/
def PutR (B : Nat) (x : WX) (a : Nat) (d : List UInt8) (more : Bool) (w : World) (e : Ending) (w' : World) : Prop :=
  e = .returned (.tuple #[]) ∧ ∃ x' : WX, Later w.heap.size x x' ∧ WAt w' B x' ∧ x'.pure = putP x.pure a d more ∧ Frame (WF x) w w'

theorem put_step {w2 wr : World} {B : Nat} {x2 : WX} {a : Nat} {d : List UInt8} {S : List UInt8 × List Bool × Int} {i : Nat} {D : List UInt8} {H : List Bool} {m : Int} (s : PutS w2 B x2 a d S i D H m wr) (hi : i < d.length) {k : Nat} (ek : a + i = k) (hk : k < x2.data.length) (hb : H.getD k false = false) {dg hg : Nat} (ed : x2.dA = some ⟨dg, 0, none⟩) (eh : x2.hA = some ⟨hg, 0, none⟩) {u : Int} (hu : ((d.getD i 0).toNat : Int) = u)
    {W : World} (hW : W = (wr.setCell ⟨dg, k, none⟩ (.int .u8 u)).setCell ⟨hg, k, none⟩ (.bool true) ∨ W = (wr.setCell ⟨hg, k, none⟩ (.bool true)).setCell ⟨dg, k, none⟩ (.int .u8 u)) :
    Blk W x2.g 60 (wholeV (x2.upd (D.set k (d.getD i 0)) (H.set k true) m)) ∧ PutS w2 B x2 a d S (i + 1) (D.set k (d.getD i 0)) (H.set k true) (m + 1) (W.setCell ⟨x2.g, 10, none⟩ (.int .i64 (m + 1))) := by
  subst hu
  have h : WAt W B (x2.upd (D.set k (d.getD i 0)) (H.set k true) m) ∧ Frame (WF x2) wr W := by
    rcases hW with rfl | rfl
    · have h1 := stD s.wat (dg := dg) ed k (d.getD i 0)
      have h2 := stH h1.1 (hg := hg) eh k true
      exact ⟨h2.1, (h1.2.trans h2.2 (fun j hj => .inl (WF_same hj rfl rfl rfl))).mono (fun j hj => WF_same hj rfl rfl rfl)⟩
    · have h1 := stH s.wat (hg := hg) eh k true
      have h2 := stD h1.1 (dg := dg) ed k (d.getD i 0)
      exact ⟨h2.1, (h1.2.trans h2.2 (fun j hj => .inl (WF_same hj rfl rfl rfl))).mono (fun j hj => WF_same hj rfl rfl rfl)⟩
  have h3 := stC h.1 10 (.int .i64 (m + 1)) (x2.upd (D.set k (d.getD i 0)) (H.set k true) (m + 1)) rfl rfl ⟨rfl, rfl, rfl, rfl, rfl, rfl⟩ (fun h hh => .inl hh)
  refine ⟨h.1.blk, h3.1, by rw [List.length_set]; exact s.l1, by rw [List.length_set]; exact s.l2, (s.fr.trans h.2 (fun j hj => .inl hj)).trans h3.2 (fun j hj => .inl (WF_same hj rfl rfl rfl)), ?_, by have := s.m0; omega, by have := s.m1; omega⟩
  rw [← s.eq, putL_drop a d _ i hi, ek]
  have hb' : H.getD k false = false := hb
  simp only [hb']
  rfl
theorem put_skip {w2 wr : World} {B : Nat} {x2 : WX} {a : Nat} {d : List UInt8} {S : List UInt8 × List Bool × Int} {i : Nat} {D : List UInt8} {H : List Bool} {m : Int} (s : PutS w2 B x2 a d S i D H m wr) (hi : i < d.length) (hb : H.getD (a + i) false = true) : PutS w2 B x2 a d S (i + 1) D H m wr :=
  ⟨s.wat, s.l1, s.l2, s.fr, by
    rw [← s.eq, putL_drop a d _ i hi]
    have hb' : H.getD (a + i) false = true := hb
    simp only [hb']
    rfl, s.m0, by have := s.m1; omega⟩
theorem PutS.drew {w2 wr : World} {B : Nat} {x2 : WX} {a : Nat} {d : List UInt8} {S : List UInt8 × List Bool × Int} {i : Nat} {D : List UInt8} {H : List Bool} {m : Int} (s : PutS w2 B x2 a d S i D H m wr) : PutS w2 B x2 a d S i D H m wr.drew :=
  ⟨s.wat.below ((show Drawn wr wr.drew from ⟨1, rfl⟩).below _), s.l1, s.l2, s.fr.drewN 1, s.eq, s.m0, s.m1⟩
end Go.Proofs.Ytpdkoooecnmjjaa
