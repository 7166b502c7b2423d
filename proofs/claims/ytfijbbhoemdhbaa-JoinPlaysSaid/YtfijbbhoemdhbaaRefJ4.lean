/-
  The walk of the reference's Read of joints.
-/
import Derived.Test.YtfijbbhoemdhbaaRefJ3
namespace Go.Proofs.Ytfijbbhoemdhbaa
open Go.RowKit
set_option linter.unusedVariables false

def ReadR (B h : Nat) (N R : Int) (got : List UInt8) (D : Option Addr) (d : Nat) (L : HB) (m : Nat) (w : World) (e : Ending) (w' : World) : Prop :=
  ∃ A' c' X x, e = .returned (.tuple #[.slice X (got.take m).length x, .int .i64 0]) ∧ RJ w' B h N R A' c' (got.drop m) D d L ∧ Sl w' X x (got.take m) ∧ Frame (RF h D L.length d) w w' ∧ ∀ q, (Value.slice A' (got.drop m).length c').ownBlock = some q → w.heap.size ≤ q
section
variable {w : World} {B h c d : Nat} {N R : Int} {A D : Option Addr} {got : List UInt8} {L : HB}
theorem rjread_bad (r : RJ w B h N R A c got D d L) (n : Int) (hn : n < 0) :
    Calls Try.prog 17 #[.pointer (some ⟨h, 0, none⟩), .int .i64 n] w fun e w' => e = .returned (.tuple #[.slice none 0 0, .int .i64 2]) ∧ w = w' := by
  go_enter Try.func17, Try.ntmps17
  go_wp2
  go_ret2
  exact ⟨rfl, rfl⟩
/-- Behind both appends. -/
theorem readr_of {w1 w2 : World} {A1 A2 : Option Addr} {c1 c2 n1 n2 m : Nat} (r : RJ w B h N R A c got D d L)
    (h1 : (w.alloc (.cells #[] 5)).grownBy w1 (Value.slice (some ⟨w.heap.size, 0, none⟩) n1 0).ownBlock) (o1 : Own w1 w.heap.size A1 c1 (got.take m))
    (h2 : (w1.alloc (.cells #[] 5)).grownBy w2 (Value.slice (some ⟨w1.heap.size, 0, none⟩) n2 0).ownBlock) (o2 : Own w2 w1.heap.size A2 c2 (got.drop m)) :
    ReadR B h N R got D d L m w (.returned (.tuple #[.slice A1 (got.take m).length c1, .int .i64 0])) (w2.setCell ⟨h, 2, none⟩ (.slice A2 (got.drop m).length c2)) := by
  have b1 : Below w.heap.size w w1 := ((Below.refl _ _).alloc (Nat.le_refl _) _).grown h1 (by simp) (fun k hk => by simp [Value.ownBlock] at hk; omega)
  have b2 : Below w1.heap.size w1 w2 := ((Below.refl _ _).alloc (Nat.le_refl _) _).grown h2 (by simp) (fun k hk => by simp [Value.ownBlock] at hk; omega)
  have hl := r.lt
  have hz := b1.size
  have q := RJ.setGot (A' := A2) (c' := c2) (got' := got.drop m) r (b1.trans (b2.mono hz)) (o2.base hz)
  refine ⟨A2, c2, A1, c1, rfl, q.1, ?_, q.2, fun k hk => Nat.le_trans hz (ownBlock_lt o2 k hk).1⟩
  exact (own_set_far (o1.keep b2) (p := ⟨h, 2, none⟩) (fun e => by have := (ownBlock_lt o1 h e).1; omega) _).sl
theorem got_fin2 {w1 w2 : World} {n2 : Nat} (r : RJ w B h N R A c got D d L) (b1 : Below w.heap.size w w1) (h2 : (w1.alloc (.cells #[] 5)).grownBy w2 (Value.slice (some ⟨w1.heap.size, 0, none⟩) n2 0).ownBlock) :
    w2.frozen? ⟨h, 2, none⟩ = false ∧ w2.cell? ⟨h, 2, none⟩ = some (.slice A got.length c) := by
  have b2 : Below w1.heap.size w1 w2 := ((Below.refl _ _).alloc (Nat.le_refl _) _).grown h2 (by simp) (fun k hk => by simp [Value.ownBlock] at hk; omega)
  have r2 := (r.below b1).below b2
  exact ⟨r2.blk.free 2, r2.blk.cell 2⟩
set_option maxHeartbeats 2000000 in
set_option maxRecDepth 100000 in
theorem rjread_any (r : RJ w B h N R A c got D d L) (n : Int) (m : Nat) (hn : 0 ≤ n) (hg : got.length ≤ 70000) (hm : (min n got.length).toNat = m) :
    Calls Try.prog 17 #[.pointer (some ⟨h, 0, none⟩), .int .i64 n] w (ReadR B h N R got D d L m w) := by
  have hmg : m ≤ got.length := by omega
  have hmin : (if (got.length : Int) < n then (got.length : Int) else n) = (m : Int) := by split <;> omega
  have c2 : w.cell? ⟨h, 2, none⟩ = some (.slice A got.length c) := r.blk.cell 2
  have hs := r.got.sl
  have hcap := hs.2.1
  have hA : A = none ∧ c = 0 ∧ got = [] ∨ ∃ g, A = some ⟨g, 0, none⟩ := by
    rcases r.got.2 with ⟨hv, h0⟩ | ⟨g, cap, cur, hv, _⟩
    · injection hv with h1 h2 h3
      exact .inl ⟨h1, h3, List.length_eq_zero_iff.1 h0⟩
    · injection hv with h1
      exact .inr ⟨g, h1⟩
  have HR := Lib.hid r
  have hlh := r.lt
  have HT := Lib.hid (hs.take m)
  have HC := Lib.hid (hs.cut m hmg)
  have L1 : Hid ((got.take m).length = m) := by show _ = _; rw [List.length_take]; omega
  have L2 : Hid ((got.drop m).length = got.length - m) := by show _ = _; rw [List.length_drop]
  have FR : Hid (∀ (w1 w2 : World) (A1 A2 : Option Addr) (c1 c2 n1 n2 : Nat), (w.alloc (.cells #[] 5)).grownBy w1 (Value.slice (some ⟨w.heap.size, 0, none⟩) n1 0).ownBlock → Own w1 w.heap.size A1 c1 (got.take m) → (w1.alloc (.cells #[] 5)).grownBy w2 (Value.slice (some ⟨w1.heap.size, 0, none⟩) n2 0).ownBlock → Own w2 w1.heap.size A2 c2 (got.drop m) →
      ReadR B h N R got D d L m w (.returned (.tuple #[.slice A1 m c1, .int .i64 0])) (w2.setCell ⟨h, 2, none⟩ (.slice A2 (got.length - m) c2))) := fun w1 w2 A1 A2 c1 c2 n1 n2 g1 o1 g2 o2 => by
    have := readr_of (m := m) r g1 o1 g2 o2
    rw [L1.out, L2.out] at this
    exact this
  clear r hs hm
  obtain ⟨gl, EGL⟩ : ∃ z, Hid (got.length = z) := ⟨_, rfl⟩
  rw [EGL.out] at c2 hmin hmg hg hcap L2 FR
  obtain ⟨T, ET⟩ : ∃ z, Hid (got.take m = z) := ⟨_, rfl⟩
  obtain ⟨U, EU⟩ : ∃ z, Hid (got.drop m = z) := ⟨_, rfl⟩
  rw [ET.out] at HT L1 FR
  rw [EU.out] at HC L2 FR
  rcases hA with ⟨rfl, rfl, rfl⟩ | ⟨g, rfl⟩
  · have egl : gl = 0 := EGL.out.symm
    subst egl
    obtain rfl : m = 0 := by omega
    have eT : T = [] := by rw [← ET.out]; rfl
    have eU : U = [] := by rw [← EU.out]; rfl
    subst eT eU
    have g1 : (w.alloc (.cells #[] 5)).grownBy (w.alloc (.cells #[] 5)) (Value.slice (some ⟨w.heap.size, 0, none⟩) 0 0).ownBlock := ⟨rfl, rfl, rfl, Nat.le_refl _, fun _ _ _ => rfl⟩
    have g2 : ((w.alloc (.cells #[] 5)).alloc (.cells #[] 5)).grownBy ((w.alloc (.cells #[] 5)).alloc (.cells #[] 5)) (Value.slice (some ⟨(w.alloc (.cells #[] 5)).heap.size, 0, none⟩) 0 0).ownBlock := ⟨rfl, rfl, rfl, Nat.le_refl _, fun _ _ _ => rfl⟩
    have q := FR.out _ _ _ _ 0 0 0 0 g1 (own_nil_made w _ (Nat.le_refl _)) g2 (own_nil_made (w.alloc (.cells #[] 5)) _ (Nat.le_refl _))
    have el : (w.alloc (.cells #[] 5)).heap.size = w.heap.size + 1 := by simp
    rw [World.setCell_alloc_past _ _ _ _ (by rw [el]; omega), World.setCell_alloc_past _ _ _ _ hlh, el] at q
    have Q := Lib.hid q
    have f2 := HR.out.blk.free 2
    clear q g1 g2 el
    have HN0 : 0 < n ∨ n = 0 := by omega
    rcases HN0 with hn1 | rfl
    · go_enter Try.func17, Try.ntmps17
      go_wp2_with fail
      go_ret2
      exact Q.out
    · go_enter Try.func17, Try.ntmps17
      go_wp2_with fail
      go_ret2
      exact Q.out
  · simp only [Option.map_some, add_lit', Nat.zero_add] at HC
    obtain ⟨AA, EA⟩ : ∃ AA, (if c = m then some (⟨g, 0, none⟩ : Addr) else some (⟨g, m, none⟩ : Addr)) = AA := ⟨_, rfl⟩
    rw [EA] at HC
    have hmg' : (m : Int) ≤ (gl : Int) := by omega
    have hmc' : (m : Int) ≤ (c : Int) := by omega
    have hgc' : (gl : Int) ≤ (c : Int) := by omega
    go_enter Try.func17, Try.ntmps17
    go_wp2_with (at_builtin; first
      | (refine app_n _ rfl _ _ rfl w.heap.size (some ⟨w.heap.size, 0, none⟩) 0 [] 0 rfl rfl (own_nil_made w _ (Nat.le_refl _)) (some ⟨g, 0, none⟩) c T m L1.out rfl (HT.out.below ((Below.refl _ _).alloc (Nat.le_refl _) _)) (by rw [L1.out]; simp; omega) (by simp) ?_; intro A1 c1 w1 hown1 hgr1; have HO1 : Hid (Own w1 w.heap.size A1 c1 T) := hown1; have HG1 := Lib.hid hgr1; clear hown1 hgr1; have hb1 : Below w.heap.size w w1 := ((Below.refl _ _).alloc (Nat.le_refl _) _).grown HG1.out (by simp) (fun k hk => by simp [Value.ownBlock] at hk; omega); have HB1 := Lib.hid hb1; have c2w : (w1.alloc (.cells #[] 5)).cell? ⟨h, 2, none⟩ = some (.slice (some ⟨g, 0, none⟩) gl c) := keep_below ((Below.refl _ _).alloc (Nat.le_refl _) _) _ _ (keep_below hb1 _ _ c2); clear hb1)
      | (refine app_n _ rfl _ _ rfl w1.heap.size (some ⟨w1.heap.size, 0, none⟩) 0 [] 0 rfl rfl (own_nil_made w1 _ (Nat.le_refl _)) AA (c - m) U (gl - m) L2.out rfl ((HC.out.below HB1.out).below ((Below.refl _ _).alloc (Nat.le_refl _) _)) (by rw [L2.out]; simp; omega) (by simp) ?_; intro A2 c2' w2 hown2 hgr2; have HO2 : Hid (Own w2 w1.heap.size A2 c2' U) := hown2; have HG2 := Lib.hid hgr2; clear hown2 hgr2; obtain ⟨f2z, c2z⟩ := got_fin2 HR.out HB1.out HG2.out))
    go_ret2
    exact FR.out w1 w2 A1 A2 c1 c2' _ _ HG1.out HO1.out HG2.out HO2.out
end
end Go.Proofs.Ytfijbbhoemdhbaa
