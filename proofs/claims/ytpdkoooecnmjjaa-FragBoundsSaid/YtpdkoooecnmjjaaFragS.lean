/-
  The walks of Age, Len and Add at a table that no call made; of Age at one that was; of law08.few.
-/
import Derived.Test.YtpdkoooecnmjjaaFragR
namespace Go.Proofs.Ytpdkoooecnmjjaa
open Go.RowKit
set_option linter.unusedVariables false

/-- A table that no call made: nil, or one of noughts. -/
def VoidT (w : World) (a : Option Addr) : Prop := a = none ∨ ∃ g, a = some ⟨g, 0, none⟩ ∧ w.cell? ⟨g, 3, none⟩ = some (.bool false)
theorem VoidT.below {w w' : World} {a : Option Addr} (h : VoidT w a) (hb : Below w.heap.size w w') : VoidT w' a := by
  rcases h with h | ⟨g, h1, h2⟩
  · exact .inl h
  · exact .inr ⟨g, h1, keep_below hb _ _ h2⟩
theorem fis_v (a : Option Addr) (w : World) (h : VoidT w a) :
    Calls Try.prog 22 #[.pointer a] w fun e w' => e = .returned (.bool false) ∧ w = w' := by
  rcases h with rfl | ⟨g, rfl, hc⟩
  · exact is_nil w
  · exact is_no w hc
theorem fmay_v (a : Option Addr) (n : Int) (w : World) (h : VoidT w a) :
    Calls Try.prog 12 #[.pointer a, .int .i64 n] w fun e w' => e = .returned (.int .i64 1) ∧ w = w' := by
  go_enter Try.func12, Try.ntmps12
  go_wp2_with fail
  refine (fis_v a _ h).mono ?_
  rintro e w' ⟨rfl, rfl⟩
  go_wp2_with fail
  go_ret
  exact ⟨rfl, rfl⟩
theorem fage_v (a : Option Addr) (n : Int) (w : World) (h : VoidT w a) :
    Calls Try.prog 11 #[.pointer a, .int .i64 n] w fun e w' => e = .returned (.tuple #[.int .i64 0, .int .i64 1]) ∧ w = w' := by
  go_enter Try.func11, Try.ntmps11
  go_wp2_with fail
  refine (fmay_v a n _ h).mono ?_
  rintro e w' ⟨rfl, rfl⟩
  go_wp2_with fail
  go_ret2
  exact ⟨rfl, rfl⟩
theorem flen_v (a : Option Addr) (w : World) (h : VoidT w a) :
    Calls Try.prog 10 #[.pointer a] w fun e w' => e = .returned (.int .i64 0) ∧ w = w' := by
  go_enter Try.func10, Try.ntmps10
  go_wp2_with fail
  refine (fis_v a _ h).mono ?_
  rintro e w' ⟨rfl, rfl⟩
  go_wp2_with fail
  go_ret
  exact ⟨rfl, rfl⟩
def VoidJ (w : World) (gr : Nat) (l : Nat) (a' : Act) (W : World) : Prop :=
  l = 0 ∧ Blk W gr 33 (pkV 0 0 0 0 false false 0 0 none 0 0) ∧ Below w.heap.size w W ∧ ∃ u : Nat → Value, a' = { tmps := #[u 0, u 1, u 2, u 3, u 4, u 5, PV gr, u 7, u 8, u 9, u 10, .int .i64 1, u 12, u 13, u 14, u 15, u 16, u 17, u 18, u 19, u 20, u 21, u 22, u 23, u 24, u 25, u 26, u 27, u 28, u 29, u 30, u 31, u 32, u 33, u 34, u 35, u 36, u 37, u 38, u 39, u 40, u 41, u 42, u 43, u 44, u 45, u 46, u 47, u 48, u 49, u 50, u 51, u 52, u 53, u 54, u 55, u 56, u 57, u 58, u 59, u 60, u 61, u 62, u 63, u 64, u 65, u 66, u 67, u 68, u 69, u 70, u 71, u 72, u 73, u 74, u 75, u 76, u 77, u 78, u 79, u 80, u 81, u 82, u 83, u 84, u 85, u 86, u 87, u 88, u 89, u 90, u 91, u 92, u 93, u 94, u 95, u 96, u 97, u 98, u 99, u 100, u 101, u 102, u 103, u 104, u 105, u 106, u 107, u 108], defers := [] }
set_option maxHeartbeats 8000000 in
set_option maxRecDepth 100000 in
theorem fadd_v (a : Option Addr) (w : World) (h : VoidT w a) (tm : Int) (id at_ life kind : Int) (wh mo : Bool) (f t' : Int) (D : Option Addr) (n q : Nat) :
    Calls Try.prog 8 #[.pointer a, .int .i64 tm, .agg (pkV id at_ life kind wh mo f t' D n q)] w fun e w' => e = errR 1 ∧ Below w.heap.size w w' := by
  have hb : Below w.heap.size w ((w.alloc (.cells (pkV id at_ life kind wh mo f t' D n q) 33)).alloc (.cells (pkV 0 0 0 0 false false 0 0 none 0 0) 33)) := ((Below.refl _ _).alloc (Nat.le_refl _) _).alloc (by simp) _
  have hr : Blk ((w.alloc (.cells (pkV id at_ life kind wh mo f t' D n q) 33)).alloc (.cells (pkV 0 0 0 0 false false 0 0 none 0 0) 33)) (w.heap.size + 1) 33 (pkV 0 0 0 0 false false 0 0 none 0 0) := by
    have := blk_new (w.alloc (.cells (pkV id at_ life kind wh mo f t' D n q) 33)) 33 (pkV 0 0 0 0 false false 0 0 none 0 0)
    simpa using this
  have hv := h.below hb
  have HB := Lib.hid hb
  have HR := Lib.hid hr
  have HV := Lib.hid hv
  clear h hb hr hv
  go_enter Try.func8, Try.ntmps8
  go_wp2_with fail
  generalize (w.alloc (.cells (pkV id at_ life kind wh mo f t' D n q) 33)).alloc (.cells (pkV 0 0 0 0 false false 0 0 none 0 0) 33) = w1 at *
  obtain ⟨gr, EGR⟩ : ∃ z, Hid (w.heap.size + 1 = z) := ⟨_, rfl⟩
  rw [EGR.out] at HR ⊢
  obtain ⟨gp, EGP⟩ : ∃ z, Hid (w.heap.size = z) := ⟨_, rfl⟩
  have HGR : Hid (w.heap.size ≤ gr) := by have := EGR.out; show _ ≤ _; omega
  refine wp_scope_goes (VoidJ w gr) (fun _ _ _ => 0) ?first ?pass
  case pass =>
    clear HR HB HV
    intro l a' W hJ
    obtain ⟨rfl, hrs, hbel, u, rfl⟩ := hJ
    refine ⟨_, rfl, ?_⟩
    obtain ⟨r0, r1, r2, r3, r4, r5, r6, r7, r8⟩ := hrs.cells9
    obtain ⟨f0, f1, f2, f3, f4, f5, f6, f7, f8⟩ := hrs.frees9
    obtain ⟨hk, hg⟩ := hrs.store9 (.int .i64 0) (.int .i64 0) (.int .i64 0) (.int .i64 0) (.bool false) (.bool false) (.int .u32 0) (.int .u32 0) (.slice none 0 0)
    have HK := Lib.hid hk
    have HBB := Lib.hid (below_grown hbel hg (Nat.le_refl _) HGR.out)
    clear hk hg hbel hrs
    go_wp2_with fail
    generalize World.setCell _ _ (Value.slice none 0 0) = w5 at HK HBB ⊢
    simp only [goes]
    obtain ⟨d0, d1, d2, d3, d4, d5, d6, d7, d8⟩ := HK.out.cells9
    exact bodyPost_ret (v := .tuple #[emptyV, .bool false, .int .i64 1]) (by simp [results, Try.results8, go_sem, d0, d1, d2, d3, d4, d5, d6, d7, d8]) rfl ⟨rfl, HBB.out⟩
  case first =>
    go_wp2_with fail
    refine (fmay_v a tm _ HV.out).mono ?_
    rintro e w' ⟨rfl, rfl⟩
    go_wp2_with fail
    go_step3
    exact ⟨rfl, HR.out, HB.out, fr0⟩

/-- What Age leaves. -/
theorem fage_any {w : World} {B tb c : Nat} {wait now : Int} {A : Option Addr} {L : List WX} (t : TAt w B tb wait now A c L) (n : Int) (h0 : now ≤ n) (h1 : n ≤ 1099511627776) (hl : L.length ≤ 1000) :
    Calls Try.prog 11 #[PV tb, .int .i64 n] w fun e w' => e = .returned (.tuple #[.int .i64 ((L.length : Int) - (L.filter fun x => !oldB wait n x).length), .int .i64 0]) ∧ TAt w' B tb wait n A c (L.filter fun x => !oldB wait n x) ∧ Frame (TF tb A L.length c) w w' := by
  have MAY := may_any t n
  have e0 : mayE now n = 0 := by unfold mayE; rw [if_neg (by omega)]
  rw [e0] at MAY
  have DRP := drop_any t n h0 h1 hl
  unfold DropR at DRP
  obtain ⟨z, EZ⟩ : ∃ z, Hid ((L.length : Int) - (L.filter fun x => !oldB wait n x).length = z) := ⟨_, rfl⟩
  rw [EZ.out] at DRP ⊢
  clear t h0 h1 hl e0
  go_enter Try.func11, Try.ntmps11
  go_wp2_with fail
  refine MAY.mono ?_
  rintro e w' ⟨rfl, rfl⟩
  go_wp2_with fail
  refine DRP.mono ?_
  rintro e w' ⟨rfl, ht, hF⟩
  have HT := Lib.hid ht
  have HF := Lib.hid hF
  clear ht hF DRP MAY
  go_wp2_with fail
  go_ret2
  exact ⟨rfl, HT.out, HF.out⟩
end Go.Proofs.Ytpdkoooecnmjjaa
