/-
  The walk of tally.Clear.
-/
import Derived.Test.YtphicjokogljcaaTally5
namespace Go.Proofs.Ytphicjokogljcaa
open Go.RowKit
set_option linter.unusedVariables false

theorem store_cplx' (P : Program) (w : World) (a : Addr) (m : Mode) (k : FloatKind) (x y : Nat) : (store a (.complex k x y) m).run P w = stored P w a (.complex k x y) m := run_store P w a _ m rfl
attribute [local go_sem] store_cplx'

def clearF (P : Int) (f : Counts) (p : Int) : Counts := if 0 ≤ p ∧ p < P then fun j => if p.toNat * 8 ≤ j ∧ j < p.toNat * 8 + 8 then (0, 0) else f j else f
def clearE (P p : Int) : Int := if 0 ≤ p ∧ p < P then 0 else 2
def Cleared (P : Int) (f : Counts) (p : Int) (g : Nat) (w : World) (e : Ending) (w' : World) : Prop :=
  e = .returned (.int .i64 (clearE P p)) ∧ TallyAt w' g P (clearF P f p) ∧ w.grownBy w' (some g)

theorem TallyAt.same {w : World} {g : Nat} {P : Int} {f f' : Counts} (h : TallyAt w g P f) (e : f = f') : TallyAt w g P f' := by subst e; exact h
theorem set8 {w : World} {g : Nat} {P : Int} {f : Counts} (h : TallyAt w g P f) (b : Nat) (hb : b + 8 ≤ 128) :
    TallyAt ((((((((w.setCell ⟨g, b, none⟩ (.complex .f64 0 0)).setCell ⟨g, b + 1, none⟩ (.complex .f64 0 0)).setCell ⟨g, b + 2, none⟩ (.complex .f64 0 0)).setCell ⟨g, b + 3, none⟩ (.complex .f64 0 0)).setCell ⟨g, b + 4, none⟩ (.complex .f64 0 0)).setCell ⟨g, b + 5, none⟩ (.complex .f64 0 0)).setCell ⟨g, b + 6, none⟩ (.complex .f64 0 0)).setCell ⟨g, b + 7, none⟩ (.complex .f64 0 0)) g P (fun j => if b ≤ j ∧ j < b + 8 then (0, 0) else f j) := by
  have z := fl_zero
  have h0 := h.set b (by omega) 0 0 (by omega) (by omega)
  have h1 := h0.set (b + 1) (by omega) 0 0 (by omega) (by omega)
  have h2 := h1.set (b + 2) (by omega) 0 0 (by omega) (by omega)
  have h3 := h2.set (b + 3) (by omega) 0 0 (by omega) (by omega)
  have h4 := h3.set (b + 4) (by omega) 0 0 (by omega) (by omega)
  have h5 := h4.set (b + 5) (by omega) 0 0 (by omega) (by omega)
  have h6 := h5.set (b + 6) (by omega) 0 0 (by omega) (by omega)
  have h7 := h6.set (b + 7) (by omega) 0 0 (by omega) (by omega)
  rw [z] at h7
  refine h7.same (funext fun j => ?_)
  by_cases hj : b ≤ j ∧ j < b + 8
  · rw [if_pos hj]
    rcases (by omega : j = b ∨ j = b + 1 ∨ j = b + 2 ∨ j = b + 3 ∨ j = b + 4 ∨ j = b + 5 ∨ j = b + 6 ∨ j = b + 7) with rfl | rfl | rfl | rfl | rfl | rfl | rfl | rfl <;> simp
  · rw [if_neg hj, if_neg (by omega), if_neg (by omega), if_neg (by omega), if_neg (by omega), if_neg (by omega), if_neg (by omega), if_neg (by omega), if_neg (by omega)]
theorem grown_set' {w : World} (g j : Nat) (u : Value) : w.grownBy (w.setCell ⟨g, j, none⟩ u) (some g) :=
  ⟨rfl, rfl, rfl, by simp [World.setCell], fun i _ hi => heap_setCell_other w ⟨g, j, none⟩ i _ (fun e => hi (by simp [e]))⟩

set_option maxHeartbeats 2000000 in
set_option maxRecDepth 100000 in
theorem tclear_any (g : Nat) (P p : Int) (f : Counts) (w : World) (ht : TallyAt w g P f) :
    Calls Try.prog 21 #[.pointer (some ⟨g, 0, none⟩), .int .i64 p] w (Cleared P f p g w) := by
  have hp := ht.peers
  have p0 := ht.p0
  have p1 := ht.p1
  by_cases h : 0 ≤ p ∧ p < P
  · have HE : Hid (clearE P p = 0) := by show _ = _; rw [clearE, if_pos h]
    have HF : Hid (clearF P f p = fun j => if p.toNat * 8 ≤ j ∧ j < p.toNat * 8 + 8 then (0, 0) else f j) := by show _ = _; rw [clearF, if_pos h]
    have hin : inT P p 0 := ⟨h.1, h.2, by omega, by omega⟩
    obtain ⟨n, rfl⟩ := Int.eq_ofNat_of_zero_le h.1
    have hn : n < 16 := by omega
    have hn' : (n : Int) < 16 := by omega
    rw [Int.toNat_natCast] at HF
    have HIN := Lib.hid hin
    have HT := Lib.hid ht
    have d0 := ht.at_ (n * 8) (by omega)
    have d1 := ht.at_ (n * 8 + 1) (by omega)
    have d2 := ht.at_ (n * 8 + 2) (by omega)
    have d3 := ht.at_ (n * 8 + 3) (by omega)
    have d4 := ht.at_ (n * 8 + 4) (by omega)
    have d5 := ht.at_ (n * 8 + 5) (by omega)
    have d6 := ht.at_ (n * 8 + 6) (by omega)
    have d7 := ht.at_ (n * 8 + 7) (by omega)
    have f0 := ht.free (n * 8)
    have f1 := ht.free (n * 8 + 1)
    have f2 := ht.free (n * 8 + 2)
    have f3 := ht.free (n * 8 + 3)
    have f4 := ht.free (n * 8 + 4)
    have f5 := ht.free (n * 8 + 5)
    have f6 := ht.free (n * 8 + 6)
    have f7 := ht.free (n * 8 + 7)
    clear h hin ht
    go_enter Try.func21, Try.ntmps21
    go_wp2_with fail
    refine (is_yes g P _ hp p0).mono ?_
    rintro e w' ⟨rfl, rfl⟩
    go_wp2_with fail
    refine (at_yes g P n 0 _ hp HIN.out p1).mono ?_
    rintro e w' ⟨rfl, rfl⟩
    go_wp2_with fail
    go_ret
    refine ⟨by rw [HE.out]; rfl, ?_, ?_⟩
    · rw [HF.out]
      exact set8 HT.out (n * 8) (by omega)
    · exact ((((((((grown_set' g _ _).trans (grown_set' g _ _)).trans (grown_set' g _ _)).trans (grown_set' g _ _)).trans (grown_set' g _ _)).trans (grown_set' g _ _)).trans (grown_set' g _ _)).trans (grown_set' g _ _))
  · have HE : Hid (clearE P p = 2) := by show _ = _; rw [clearE, if_neg h]
    have HF : Hid (clearF P f p = f) := by show _ = _; rw [clearF, if_neg h]
    have HIN : Hid (¬ inT P p 0) := fun hi => h ⟨hi.1, hi.2.1⟩
    have HT := Lib.hid ht
    clear h ht
    go_enter Try.func21, Try.ntmps21
    go_wp2_with fail
    refine (is_yes g P _ hp p0).mono ?_
    rintro e w' ⟨rfl, rfl⟩
    go_wp2_with fail
    refine (at_no g P p 0 _ hp HIN.out p0).mono ?_
    rintro e w' ⟨rfl, rfl⟩
    go_wp2_with fail
    go_ret
    exact ⟨by rw [HE.out]; rfl, by rw [HF.out]; exact HT.out, grown_refl _ _⟩
end Go.Proofs.Ytphicjokogljcaa
