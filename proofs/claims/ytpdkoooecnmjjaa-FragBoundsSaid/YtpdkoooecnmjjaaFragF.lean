/-
  The walks of keyOf and find.
-/
import Derived.Test.YtpdkoooecnmjjaaFragE
import Derived.Laws.StructEq
namespace Go.Proofs.Ytpdkoooecnmjjaa
open Go.RowKit
set_option linter.unusedVariables false

abbrev pkV (id at_ life kind : Int) (wh mo : Bool) (f t : Int) (D : Option Addr) (n q : Nat) : Array Value :=
  #[.int .i64 id, .int .i64 at_, .int .i64 life, .int .i64 kind, .bool wh, .bool mo, .int .u32 f, .int .u32 t, .slice D n q]
abbrev keyV (f t kind id : Int) : Array Value := #[.int .u32 f, .int .u32 t, .int .i64 kind, .int .i64 id]
set_option maxRecDepth 100000 in
theorem keyOf_any (id at_ life kind : Int) (wh mo : Bool) (f t : Int) (D : Option Addr) (n q : Nat) (w : World) :
    Calls Try.prog 28 #[.agg (pkV id at_ life kind wh mo f t D n q)] w fun e w' => e = .returned (.agg (keyV f t kind id)) ∧ Below w.heap.size w w' := by
  have hb : Below w.heap.size w ((w.alloc (.cells (pkV id at_ life kind wh mo f t D n q) 33)).alloc (.cells (keyV 0 0 0 0) 56)) := ((Below.refl _ _).alloc (Nat.le_refl _) _).alloc (by simp) _
  have h1 : Blk ((w.alloc (.cells (pkV id at_ life kind wh mo f t D n q) 33)).alloc (.cells (keyV 0 0 0 0) 56)) (w.heap.size + 1) 56 (keyV 0 0 0 0) := by
    have := blk_new (w.alloc (.cells (pkV id at_ life kind wh mo f t D n q) 33)) 56 (keyV 0 0 0 0)
    simpa using this
  have h0 : Blk ((w.alloc (.cells (pkV id at_ life kind wh mo f t D n q) 33)).alloc (.cells (keyV 0 0 0 0) 56)) w.heap.size 33 (pkV id at_ life kind wh mo f t D n q) := blk_old (blk_new _ _ _) _
  have HB := Lib.hid hb
  have H1 := Lib.hid h1
  have H0 := Lib.hid h0
  clear hb h1 h0
  go_enter Try.func28, Try.ntmps28
  go_upto_region 1 with fail
  generalize (w.alloc (.cells (pkV id at_ life kind wh mo f t D n q) 33)).alloc (.cells (keyV 0 0 0 0) 56) = w1 at *
  obtain ⟨x0, x1, x2, x3, x4, x5, x6, x7, x8⟩ := H0.out.cells9
  obtain ⟨y0, y1, y2, y3⟩ := H1.out.cells4
  obtain ⟨z0, z1, z2, z3⟩ := H1.out.frees4
  have st := H1.out.store4 (.int .u32 f) (.int .u32 t) (.int .i64 kind) (.int .i64 id)
  have HF := Lib.hid (below_grown HB.out st.2 (Nat.le_refl _) (by omega))
  have HK := Lib.hid st.1
  clear st
  go_wp2_with fail
  generalize World.setCell _ _ (Value.int .i64 id) = w5 at HK HF ⊢
  obtain ⟨d0, d1, d2, d3⟩ := HK.out.cells4
  exact bodyPost_ret (v := .agg (keyV f t kind id)) (by simp [results, Try.results28, go_sem, d0, d1, d2, d3]) rfl ⟨rfl, HF.out⟩
/-- The same key? -/
def keyB (a b c d a' b' c' d' : Int) : Bool := a == a' && (b == b' && (c == c' && d == d'))
theorem key_eq (a b c d a' b' c' d' : Int) (W : World) : (Op.equalIn 10000 56 (.agg (keyV a b c d)) (.agg (keyV a' b' c' d'))).run Try.prog W = .ok (keyB a b c d a' b' c' d') W := by
  have u56 := Try.underlying56
  have u30 := Try.underlying30
  have u3 := Try.underlying3
  have hf : Try.prog.underlying 56 = some (.struct (Try.prog.fieldsOf 56)) := by simp only [Program.fieldsOf, u56]
  have hs : Try.prog.stoodInHeld 56 = false := by kernel_rfl
  rw [run_equalIn_struct W 9999 _ _ _ hf hs]
  simp only [Program.fieldsOf, u56, Op.eqFields]
  unfold keyB
  cases h1 : a == a' <;> cases h2 : b == b' <;> cases h3 : c == c' <;> cases h4 : d == d' <;> simp [go_sem, u30, u3, h1, h2, h3, h4]
end Go.Proofs.Ytpdkoooecnmjjaa
