/-
  The chapter's example, as the contract of Add tells it.
-/
import Derived.Test.YtpdkoooecnmjjaaFragT
namespace Go.Proofs.Ytpdkoooecnmjjaa
open Go.RowKit
set_option linter.unusedVariables false

def wp1 : Pk := ⟨3, 0, 0, 0, false, true, 0, 0, [0, 0, 0, 0, 0, 0, 0, 0]⟩
def wp2 : Pk := ⟨3, 1, 0, 0, false, false, 0, 0, [1, 2, 3]⟩
def WP1 : WP := ⟨0, 0, 0, 3, 0, 1, -1, true, [0, 0, 0, 0, 0, 0, 0, 0], [true, true, true, true, true, true, true, true], 8⟩
theorem early1 : earlyE 0 0 wp1 = 0 := by decide +kernel
theorem mid1 : midE wp1 = 0 := by decide +kernel
theorem early2 : earlyE 0 1 wp2 = 0 := by decide +kernel
theorem mid2 : midE wp2 = 0 := by decide +kernel
theorem clash1 (g : Nat) : clashB (freshX g 0 0 0 3 0).pure wp1.a wp1.d wp1.mo = false := by kernel_rfl
theorem wput1 (g : Nat) : putP (freshX g 0 0 0 3 0).pure wp1.a wp1.d wp1.mo = WP1 := by kernel_rfl
theorem clash2 : clashB WP1 wp2.a wp2.d wp2.mo = false := by kernel_rfl
theorem wput2 : putP WP1 wp2.a wp2.d wp2.mo = ⟨0, 0, 0, 3, 0, 2, 11, true, [0, 0, 0, 0, 0, 0, 0, 0, 1, 2, 3], [true, true, true, true, true, true, true, true, true, true, true], 11⟩ := by kernel_rfl
section
variable {B tb c : Nat} {A : Option Addr} {w w' : World} {e : Ending}
theorem found1 {L2 : List WX} {k : Nat} {x : WX} (h : Found 0 wp1 [] L2 k x) : k = 0 ∧ L2 = [x] ∧ ∃ g, x = freshX g 0 0 0 3 0 := by
  obtain ⟨h1, ⟨rfl, _⟩ | ⟨g, _, _, rfl, h2⟩⟩ := h
  · simp at h1
  · cases k with
    | zero => exact ⟨rfl, rfl, g, h2⟩
    | succ k => simp at h1
theorem works1 (h : AddR B tb 10 0 A c [] 0 wp1 w e w') : ∃ A' c' x, e = errR 0 ∧ Below B w w' ∧ TAt w' B tb 10 0 A' c' [x] ∧ x.pure = WP1 := by
  have hf : ([] : List WX).filter (fun x => !oldB 10 0 x) = [] := rfl
  obtain ⟨hb, ⟨er, rfl, hE⟩ | ⟨bs, i1, i2, i3, i4, b1, b2, i5, i6, D, q, rfl, ho, hP⟩⟩ := h
  · rcases hE with ⟨h1, h2, h3⟩ | ⟨h1, h2, ⟨h3, h4, h5⟩ | ⟨h3, h4, h5, h6, h7⟩ | ⟨h3, A', c', L2, k, x, h4, ⟨h5, h6, h7⟩ | ⟨h5, h6, h7, h8⟩ | ⟨h5, h6, x', h7, h8, h9, h10, h11⟩⟩⟩
    · exact absurd (h2.symm.trans early1) h1
    · exact absurd (h4.symm.trans mid1) h3
    · rw [hf] at h5; cases h5
    · rw [hf] at h4
      obtain ⟨rfl, rfl, g, rfl⟩ := found1 h4
      exact absurd h5 (by simp [freshX])
    · rw [hf] at h4
      obtain ⟨rfl, rfl, g, rfl⟩ := found1 h4
      rw [clash1] at h6; cases h6
    · rw [hf] at h4
      obtain ⟨rfl, rfl, g, rfl⟩ := found1 h4
      rw [wput1] at h7
      subst h10
      exact ⟨A', c', x', rfl, hb, h11, h7⟩
  · rcases hP with ⟨h0, ⟨h1, h2, h3⟩ | ⟨h1, h2, A', c', L2, k, x, h3, h4, h5, x', h6, h7, h8, h9, h10⟩⟩
    · have := h1.2; cases this
    · rw [hf] at h3
      obtain ⟨rfl, rfl, g, rfl⟩ := found1 h3
      rw [wput1] at h6
      have e1 : x'.many = 8 := congrArg WP.many h6
      have e2 : x'.fin = -1 := congrArg WP.fin h6
      omega
theorem found2 {y x : WX} {L2 : List WX} {k : Nat} (hy : y.pure = WP1) (h : Found 1 wp2 [y] L2 k x) : x = y := by
  have e1 : y.kf = 0 := congrArg WP.kf hy
  have e2 : y.kt = 0 := congrArg WP.kt hy
  have e3 : y.kk = 0 := congrArg WP.kk hy
  have e4 : y.ki = 3 := congrArg WP.ki hy
  have hk : wp2.k y = true := by unfold Pk.k kB; rw [e1, e2, e3, e4]; rfl
  obtain ⟨h1, ⟨rfl, _⟩ | ⟨g, h2, _⟩⟩ := h
  · cases k with
    | zero => simp at h1; exact h1.symm
    | succ k => simp at h1
  · have := h2 y (by simp)
    rw [hk] at this; cases this
theorem works2 {y : WX} (hy : y.pure = WP1) (h : AddR B tb 10 0 A c [y] 1 wp2 w e w') :
    Below B w w' ∧ ∃ (i1 i2 i3 i4 : Int) (b1 b2 : Bool) (i5 i6 : Int) (D : Option Addr) (q : Nat), e = .returned (.tuple #[.agg (pkV i1 i2 i3 i4 b1 b2 i5 i6 D 11 q), .bool true, .int .i64 0]) ∧ Own w' w.heap.size D q [0, 0, 0, 0, 0, 0, 0, 0, 1, 2, 3] := by
  have hbg : y.began = 0 := congrArg WP.began hy
  have hpi : y.pieces = 1 := congrArg WP.pieces hy
  have hod : oldB 10 1 y = false := by unfold oldB; rw [hbg]; decide
  have hf : [y].filter (fun x => !oldB 10 1 x) = [y] := by simp [hod]
  obtain ⟨hb, ⟨er, rfl, hE⟩ | ⟨bs, i1, i2, i3, i4, b1, b2, i5, i6, D, q, rfl, ho, hP⟩⟩ := h
  · rcases hE with ⟨h1, h2, h3⟩ | ⟨h1, h2, ⟨h3, h4, h5⟩ | ⟨h3, h4, h5, h6, h7⟩ | ⟨h3, A', c', L2, k, x, h4, ⟨h5, h6, h7⟩ | ⟨h5, h6, h7, h8⟩ | ⟨h5, h6, x', h7, h8, h9, h10, h11⟩⟩⟩
    · exact absurd (h2.symm.trans early2) h1
    · exact absurd (h4.symm.trans mid2) h3
    · rw [hf] at h5; cases h5
    · rw [hf] at h4
      obtain rfl := found2 hy h4
      omega
    · rw [hf] at h4
      obtain rfl := found2 hy h4
      rw [hy, clash2] at h6; cases h6
    · rw [hf] at h4
      obtain rfl := found2 hy h4
      rw [hy, wput2] at h7
      have e1 : x'.many = 11 := congrArg WP.many h7
      have e2 : x'.fin = 11 := congrArg WP.fin h7
      omega
  · rcases hP with ⟨h0, ⟨h1, h2, h3⟩ | ⟨h1, h2, A', c', L2, k, x, h3, h4, h5, x', h6, h7, h8, h9, h10⟩⟩
    · have := h1.1; cases this
    · rw [hf] at h3
      obtain rfl := found2 hy h3
      rw [hy, wput2] at h6
      have e1 : x'.data = [0, 0, 0, 0, 0, 0, 0, 0, 1, 2, 3] := congrArg WP.data h6
      have hbs : bs = [0, 0, 0, 0, 0, 0, 0, 0, 1, 2, 3] := h9.trans e1
      subst hbs
      exact ⟨hb, i1, i2, i3, i4, b1, b2, i5, i6, D, q, rfl, ho⟩
end
end Go.Proofs.Ytpdkoooecnmjjaa
