/-
  The walk of join.Read.
-/
import Derived.Test.YtfijbbhoemdhbaaJoin4
namespace Go.Proofs.Ytfijbbhoemdhbaa
open Go.RowKit

def ReadJ (g R T : Nat) (A : Option Addr) (s : JS) (m : Nat) (w : World) (e : Ending) (w' : World) : Prop :=
  ∃ A2 c2 B d, e = .returned (.tuple #[.slice B (s.ready.take m).length d, .int .i64 0]) ∧ JAt w' g R T A2 c2 (readS s m) ∧ Own w' w.heap.size B d (s.ready.take m) ∧ Frame (JF g R T A) w w' ∧ ∀ i, JF g R T A2 i → JF g R T A i ∨ w.heap.size ≤ i

section
variable {w : World} {g R T : Nat} {A : Option Addr} {c : Nat} {s : JS}
theorem jread_bad (h : JAt w g R T A c s) (n : Int) (hn : n < 0) :
    Calls Try.prog 12 #[.pointer (some ⟨g, 0, none⟩), .int .i64 n] w fun e w' => e = .returned (.tuple #[.slice none 0 0, .int .i64 2]) ∧ w = w' := by
  have c2 := h.c2
  go_enter Try.func12, Try.ntmps12
  go_wp2_with fail
  refine (is_yes g R _ _ c2).mono ?_
  rintro e w' ⟨rfl, rfl⟩
  go_wp2_with fail
  go_ret2
  exact ⟨rfl, rfl⟩

theorem readj_of {w w1 w2 : World} {g R T : Nat} {A A2 B : Option Addr} {c d d2 m : Nat} {s : JS} {rt rd : List UInt8} (h : JAt w g R T A c s) (hb : Below w.heap.size w w1) (hb2 : Below w1.heap.size w1 w2)
    (ho : Own w1 w.heap.size B d rt) (ho2 : Own w2 w1.heap.size A2 d2 rd) (ht : rt = s.ready.take m) (hd : rd = s.ready.drop m) :
    ReadJ g R T A s m w (.returned (.tuple #[.slice B rt.length d, .int .i64 0])) (w2.setCell ⟨g, 5, none⟩ (.slice A2 rd.length d2)) := by
  have h2 := (h.below hb).below hb2
  have sz := hb.size
  have ho3 : Own w2 0 A2 d2 rd := ho2.base (Nat.zero_le _)
  have hne : ∀ k, (Value.slice A2 rd.length d2).ownBlock = some k → w1.heap.size ≤ k := fun k hk => (ownBlock_lt ho2 k hk).1
  have hj : JMem (w2.setCell ⟨g, 5, none⟩ (.slice A2 rd.length d2)) g R T A2 d2 (readS s m) := by
    have := h2.toJMem.setReady ho3 (fun e => by have := hne R e; have := h.ring.lt; omega)
    rw [hd] at this ⊢
    exact this
  refine ⟨A2, d2, B, d, by rw [ht], ⟨hj, read_inv s h.inv m⟩, ?_, ?_, ?_⟩
  · rw [← ht]
    exact own_set_far (ho.keep hb2) (p := ⟨g, 5, none⟩) (fun e => by have := (ownBlock_lt ho g e).1; have := h.blk.lt; omega) _
  · exact (Frame.of_below (hb.trans (hb2.mono sz))).set (p := ⟨g, 5, none⟩) (.inl rfl) _
  · intro i hi
    rcases hi with h1 | h1 | h1 | ⟨a, ha, hk⟩
    · exact .inl (.inl h1)
    · exact .inl (.inr (.inl h1))
    · exact .inl (.inr (.inr (.inl h1)))
    · refine .inr ?_
      have := hne i (by rw [ha]; simp [Value.ownBlock, hk])
      omega

set_option maxHeartbeats 1000000 in
set_option maxRecDepth 100000 in
theorem jread_any (h : JAt w g R T A c s) (n : Int) (hn : 0 ≤ n) :
    Calls Try.prog 12 #[.pointer (some ⟨g, 0, none⟩), .int .i64 n] w (ReadJ g R T A s (min n s.ready.length).toNat w) := by
  have hJ := h
  have c2 := h.c2
  have c5 := h.c5
  have f5 := h.blk.free 5
  have lg := h.blk.lt
  have hs := h.ready.sl
  have l1 := hs.2.1
  have l2 := hs.2.2.1
  have b1 : s.ready.length ≤ 70000 := by have := h.inv.few; have := h.inv.room; omega
  rcases Int.lt_or_le n s.ready.length with hlt | hle
  · obtain ⟨m, rfl⟩ := Int.eq_ofNat_of_zero_le hn
    have hm : m < s.ready.length := by omega
    have em : (min (m : Int) s.ready.length).toNat = m := by omega
    rw [em]
    clear em
    have HS1 := Lib.hid (hs.take m)
    have HS2 := Lib.hid (hs.drop m)
    obtain ⟨rt, MT⟩ : ∃ rt, Hid (rt = s.ready.take m) := ⟨_, rfl⟩
    obtain ⟨rd, MD⟩ : ∃ rd, Hid (rd = s.ready.drop m) := ⟨_, rfl⟩
    have L1 : Hid (rt.length = m) := by show rt.length = m; rw [MT.out, List.length_take]; omega
    have L2 : Hid (rd.length = s.ready.length - m) := by show rd.length = _; rw [MD.out, List.length_drop]
    rw [← MT.out] at HS1
    rw [← MD.out] at HS2
    clear hs
    go_enter Try.func12, Try.ntmps12
    go_wp2_with fail
    refine (is_yes g R _ _ c2).mono ?_
    rintro e w' ⟨rfl, rfl⟩
    go_wp2_with fail
    refine (clone_n A rt _ _ _ L1.out HS1.out (by rw [L1.out]; omega)).mono ?_
    rintro e w1 ⟨B, d, rfl, ho, hb⟩
    have c5' := (hb.cell (p := ⟨g, 5, none⟩) lg).trans c5
    have f5' := (hb.frozen (p := ⟨g, 5, none⟩) lg).trans f5
    have lg1 : g < w1.heap.size := Nat.lt_of_lt_of_le lg hb.size
    go_wp2_with fail
    refine (clone_n _ rd _ _ _ L2.out (HS2.out.below hb) (by rw [L2.out]; omega)).mono ?_
    rintro e w2 ⟨A2, d2, rfl, ho2, hb2⟩
    have c5'' := (hb2.cell (p := ⟨g, 5, none⟩) lg1).trans c5'
    have f5'' := (hb2.frozen (p := ⟨g, 5, none⟩) lg1).trans f5'
    have FIN := Lib.hid (readj_of hJ hb hb2 ho ho2 MT.out MD.out)
    go_wp2_with fail
    go_ret2
    exact FIN.out
  · rcases Int.lt_or_eq_of_le hle with hle | hle
    · have em : (min n s.ready.length).toNat = s.ready.length := by omega
      rw [em]
      clear em
      have HS1 := Lib.hid (hs.take s.ready.length)
      obtain ⟨rt, MT⟩ : ∃ rt, Hid (rt = s.ready.take s.ready.length) := ⟨_, rfl⟩
      obtain ⟨rd, MD⟩ : ∃ rd, Hid (rd = s.ready.drop s.ready.length) := ⟨_, rfl⟩
      have L1 : Hid (rt.length = s.ready.length) := by show rt.length = _; rw [MT.out, List.length_take]; omega
      have L2 : Hid (rd.length = 0) := by show rd.length = _; rw [MD.out, List.length_drop]; omega
      rw [← MT.out] at HS1
      by_cases hc : c = s.ready.length
      · have HS2 := Lib.hid (hs.cut s.ready.length (Nat.le_refl _))
        rw [if_pos hc, ← MD.out, hc, Nat.sub_self] at HS2
        subst hc
        clear hs
        go_enter Try.func12, Try.ntmps12
        go_wp2_with fail
        refine (is_yes g R _ _ c2).mono ?_
        rintro e w' ⟨rfl, rfl⟩
        go_wp2_with fail
        refine (clone_n A rt _ _ _ L1.out HS1.out (by rw [L1.out]; omega)).mono ?_
        rintro e w1 ⟨B, d, rfl, ho, hb⟩
        have c5' := (hb.cell (p := ⟨g, 5, none⟩) lg).trans c5
        have f5' := (hb.frozen (p := ⟨g, 5, none⟩) lg).trans f5
        have lg1 : g < w1.heap.size := Nat.lt_of_lt_of_le lg hb.size
        go_wp2_with fail
        refine (clone_n _ rd _ _ _ L2.out (HS2.out.below hb) (by rw [L2.out]; omega)).mono ?_
        rintro e w2 ⟨A2, d2, rfl, ho2, hb2⟩
        have c5'' := (hb2.cell (p := ⟨g, 5, none⟩) lg1).trans c5'
        have f5'' := (hb2.frozen (p := ⟨g, 5, none⟩) lg1).trans f5'
        have FIN := Lib.hid (readj_of hJ hb hb2 ho ho2 MT.out MD.out)
        go_wp2_with fail
        go_ret2
        exact FIN.out
      · have HS2 := Lib.hid (hs.cut s.ready.length (Nat.le_refl _))
        rw [if_neg hc, ← MD.out] at HS2
        clear hs
        go_enter Try.func12, Try.ntmps12
        go_wp2_with fail
        refine (is_yes g R _ _ c2).mono ?_
        rintro e w' ⟨rfl, rfl⟩
        go_wp2_with fail
        refine (clone_n A rt _ _ _ L1.out HS1.out (by rw [L1.out]; omega)).mono ?_
        rintro e w1 ⟨B, d, rfl, ho, hb⟩
        have c5' := (hb.cell (p := ⟨g, 5, none⟩) lg).trans c5
        have f5' := (hb.frozen (p := ⟨g, 5, none⟩) lg).trans f5
        have lg1 : g < w1.heap.size := Nat.lt_of_lt_of_le lg hb.size
        go_wp2_with fail
        refine (clone_n _ rd _ _ _ L2.out (HS2.out.below hb) (by rw [L2.out]; omega)).mono ?_
        rintro e w2 ⟨A2, d2, rfl, ho2, hb2⟩
        have c5'' := (hb2.cell (p := ⟨g, 5, none⟩) lg1).trans c5'
        have f5'' := (hb2.frozen (p := ⟨g, 5, none⟩) lg1).trans f5'
        have FIN := Lib.hid (readj_of hJ hb hb2 ho ho2 MT.out MD.out)
        go_wp2_with fail
        go_ret2
        exact FIN.out
    · subst hle
      have hle : True := trivial
      have em : (min (s.ready.length : Int) s.ready.length).toNat = s.ready.length := by omega
      rw [em]
      clear em
      have HS1 := Lib.hid (hs.take s.ready.length)
      obtain ⟨rt, MT⟩ : ∃ rt, Hid (rt = s.ready.take s.ready.length) := ⟨_, rfl⟩
      obtain ⟨rd, MD⟩ : ∃ rd, Hid (rd = s.ready.drop s.ready.length) := ⟨_, rfl⟩
      have L1 : Hid (rt.length = s.ready.length) := by show rt.length = _; rw [MT.out, List.length_take]; omega
      have L2 : Hid (rd.length = 0) := by show rd.length = _; rw [MD.out, List.length_drop]; omega
      rw [← MT.out] at HS1
      by_cases hc : c = s.ready.length
      · have HS2 := Lib.hid (hs.cut s.ready.length (Nat.le_refl _))
        rw [if_pos hc, ← MD.out, hc, Nat.sub_self] at HS2
        subst hc
        clear hs
        go_enter Try.func12, Try.ntmps12
        go_wp2_with fail
        refine (is_yes g R _ _ c2).mono ?_
        rintro e w' ⟨rfl, rfl⟩
        go_wp2_with fail
        refine (clone_n A rt _ _ _ L1.out HS1.out (by rw [L1.out]; omega)).mono ?_
        rintro e w1 ⟨B, d, rfl, ho, hb⟩
        have c5' := (hb.cell (p := ⟨g, 5, none⟩) lg).trans c5
        have f5' := (hb.frozen (p := ⟨g, 5, none⟩) lg).trans f5
        have lg1 : g < w1.heap.size := Nat.lt_of_lt_of_le lg hb.size
        go_wp2_with fail
        refine (clone_n _ rd _ _ _ L2.out (HS2.out.below hb) (by rw [L2.out]; omega)).mono ?_
        rintro e w2 ⟨A2, d2, rfl, ho2, hb2⟩
        have c5'' := (hb2.cell (p := ⟨g, 5, none⟩) lg1).trans c5'
        have f5'' := (hb2.frozen (p := ⟨g, 5, none⟩) lg1).trans f5'
        have FIN := Lib.hid (readj_of hJ hb hb2 ho ho2 MT.out MD.out)
        go_wp2_with fail
        go_ret2
        exact FIN.out
      · have HS2 := Lib.hid (hs.cut s.ready.length (Nat.le_refl _))
        rw [if_neg hc, ← MD.out] at HS2
        clear hs
        go_enter Try.func12, Try.ntmps12
        go_wp2_with fail
        refine (is_yes g R _ _ c2).mono ?_
        rintro e w' ⟨rfl, rfl⟩
        go_wp2_with fail
        refine (clone_n A rt _ _ _ L1.out HS1.out (by rw [L1.out]; omega)).mono ?_
        rintro e w1 ⟨B, d, rfl, ho, hb⟩
        have c5' := (hb.cell (p := ⟨g, 5, none⟩) lg).trans c5
        have f5' := (hb.frozen (p := ⟨g, 5, none⟩) lg).trans f5
        have lg1 : g < w1.heap.size := Nat.lt_of_lt_of_le lg hb.size
        go_wp2_with fail
        refine (clone_n _ rd _ _ _ L2.out (HS2.out.below hb) (by rw [L2.out]; omega)).mono ?_
        rintro e w2 ⟨A2, d2, rfl, ho2, hb2⟩
        have c5'' := (hb2.cell (p := ⟨g, 5, none⟩) lg1).trans c5'
        have f5'' := (hb2.frozen (p := ⟨g, 5, none⟩) lg1).trans f5'
        have FIN := Lib.hid (readj_of hJ hb hb2 ho ho2 MT.out MD.out)
        go_wp2_with fail
        go_ret2
        exact FIN.out
end
end Go.Proofs.Ytfijbbhoemdhbaa
