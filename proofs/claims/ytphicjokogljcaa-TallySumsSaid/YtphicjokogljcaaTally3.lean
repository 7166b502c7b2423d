/-
  The walks of tally.Add and Get.
-/
import Derived.Test.YtphicjokogljcaaTally2
namespace Go.Proofs.Ytphicjokogljcaa
open Go.RowKit

/-- A complex number is stored as any value of one cell is. -/
theorem store_cplx (P : Program) (w : World) (a : Addr) (m : Mode) (k : FloatKind) (x y : Nat) : (store a (.complex k x y) m).run P w = stored P w a (.complex k x y) m := run_store P w a _ m rfl
attribute [local go_sem] store_cplx

theorem ord_cases (a : Nat) (h : a < 9007199254740992) : (70368744177664 < a ∧ FloatKind.f64.format.order (fl a) 4814348001659060224 = some .gt) ∨ (a ≤ 70368744177664 ∧ FloatKind.f64.format.order (fl a) 4814348001659060224 = some .lt) ∨ (a ≤ 70368744177664 ∧ FloatKind.f64.format.order (fl a) 4814348001659060224 = some .eq) := by
  rw [most_order a h]
  rcases Nat.lt_trichotomy a 70368744177664 with h1 | h1 | h1
  · exact .inr (.inl ⟨by omega, by rw [Nat.compare_eq_lt.2 h1]⟩)
  · exact .inr (.inr ⟨by omega, by rw [h1]; simp⟩)
  · exact .inl ⟨h1, by rw [Nat.compare_eq_gt.2 h1]⟩

theorem added_bad {P : Int} {f : Counts} {p k i o : Int} {g : Nat} {w : World} (ht : TallyAt w g P f) (h : ¬ ok2 P p k i o) : Added P f p k i o g w (.returned (.int .i64 2)) w :=
  ⟨by rw [addE, if_neg h], by rw [addF, if_neg h]; exact ht, grown_refl _ _⟩
theorem added_full {P : Int} {f : Counts} {p k i o : Int} {g : Nat} {w : World} (ht : TallyAt w g P f) (h : ok2 P p k i o) (h2 : full f p k i o) (n : Nat) : Added P f p k i o g w (.returned (.int .i64 4)) (w.drewN n) :=
  ⟨by rw [addE, if_pos h, if_pos h2], by rw [addF, if_pos h, if_pos h2]; exact ht.keep rfl, grown_drewN _ _ _⟩
theorem added_ok {P : Int} {f : Counts} {p k i o : Int} {g : Nat} {w : World} (ht : TallyAt w g P f) (h : ok2 P p k i o) (h2 : ¬ full f p k i o) (hx : ix p k < 128) (n : Nat) :
    Added P f p k i o g w (.returned (.int .i64 0)) ((w.drewN n).setCell ⟨g, ix p k, none⟩ (.complex .f64 (fl ((f (ix p k)).1 + i.toNat)) (fl ((f (ix p k)).2 + o.toNat)))) := by
  refine ⟨by rw [addE, if_pos h, if_neg h2], ?_, ?_⟩
  · rw [addF, if_pos h, if_neg h2]
    unfold full at h2
    exact (ht.keep (w' := w.drewN n) rfl).set _ hx _ _ (by omega) (by omega)
  · exact ⟨rfl, rfl, rfl, by simp [World.setCell], fun j _ hj => heap_setCell_other (w.drewN n) ⟨g, ix p k, none⟩ j _ (fun e => hj (by simp [e]))⟩

set_option maxHeartbeats 2000000 in
set_option maxRecDepth 100000 in
theorem tadd_any (g : Nat) (P p k i o : Int) (f : Counts) (w : World) (ht : TallyAt w g P f) :
    Calls Try.prog 13 #[.pointer (some ⟨g, 0, none⟩), .int .i64 p, .int .i64 k, .int .i64 i, .int .i64 o] w (Added P f p k i o g w) := by
  have hp := ht.peers
  have p0 := ht.p0
  have p1 := ht.p1
  by_cases h1 : inT P p k
  · have H1 := Lib.hid h1
    cases h2 : fewB i
    · have H2 := Lib.hid h2
      have FIN := Lib.hid (added_bad (o := o) ht (show ¬ ok2 P p k i o by unfold ok2; rw [h2]; simp))
      clear h1 h2
      go_enter Try.func13, Try.ntmps13
      go_wp2_with fail
      refine (is_yes g P _ hp p0).mono ?_
      rintro e w' ⟨rfl, rfl⟩
      go_wp2_with fail
      refine (at_yes g P p k _ hp H1.out p1).mono ?_
      rintro e w' ⟨rfl, rfl⟩
      go_wp2_with fail
      refine (few_any i _).mono ?_
      rw [H2.out]
      rintro e w' ⟨rfl, rfl⟩
      go_wp2_with fail
      go_ret
      exact FIN.out
    · cases h3 : fewB o
      · have H2 := Lib.hid h2
        have H3 := Lib.hid h3
        have FIN := Lib.hid (added_bad (i := i) ht (show ¬ ok2 P p k i o by unfold ok2; rw [h3]; simp))
        clear h1 h2 h3
        go_enter Try.func13, Try.ntmps13
        go_wp2_with fail
        refine (is_yes g P _ hp p0).mono ?_
        rintro e w' ⟨rfl, rfl⟩
        go_wp2_with fail
        refine (at_yes g P p k _ hp H1.out p1).mono ?_
        rintro e w' ⟨rfl, rfl⟩
        go_wp2_with fail
        refine (few_any i _).mono ?_
        rw [H2.out]
        rintro e w' ⟨rfl, rfl⟩
        go_wp2_with fail
        refine (few_any o _).mono ?_
        rw [H3.out]
        rintro e w' ⟨rfl, rfl⟩
        go_wp2_with fail
        go_ret
        exact FIN.out
      · have H2 := Lib.hid h2
        have H3 := Lib.hid h3
        have OK := Lib.hid (show ok2 P p k i o from ⟨h1, h2, h3⟩)
        have i0 : 0 ≤ i ∧ i ≤ 4294967296 := by unfold fewB at h2; simpa using h2
        have o0 : 0 ≤ o ∧ o ≤ 4294967296 := by unfold fewB at h3; simpa using h3
        obtain ⟨i, rfl⟩ := Int.eq_ofNat_of_zero_le i0.1
        obtain ⟨o, rfl⟩ := Int.eq_ofNat_of_zero_le o0.1
        have hix : ix p k < 128 := by unfold inT at h1; unfold ix; omega
        have hc := ht.at_ _ hix
        have hf := ht.free (ix p k)
        have hb := ht.few (ix p k)
        have CS := fun W : World => run_complex_sum (P := Try.prog) W .add (.inl rfl) 24 .f64 _ _ _ _ _ _ (csum (f (ix p k)).1 (f (ix p k)).2 i o (by omega) (by omega))
        have oa := ord_cases ((f (ix p k)).1 + i) (by omega)
        have ob := ord_cases ((f (ix p k)).2 + o) (by omega)
        have FF := Lib.hid (fun n hfull => added_full ht OK.out hfull n)
        have FO := Lib.hid (fun n hno => added_ok ht OK.out hno hix n)
        have FU := Lib.hid (show full f p k i o ↔ 70368744177664 < (f (ix p k)).1 + i ∨ 70368744177664 < (f (ix p k)).2 + o by unfold full; rw [Int.toNat_natCast, Int.toNat_natCast])
        clear h1 h2 h3 i0 o0 hb ht
        rw [Int.toNat_natCast, Int.toNat_natCast] at FO
        generalize hJ : ix p k = J at *
        have HJ := Lib.hid hJ
        clear hJ
        generalize (f J).1 = fa at *
        generalize (f J).2 = fb at *
        have OA := Lib.hid oa
        have OB := Lib.hid ob
        clear oa ob
        go_enter Try.func13, Try.ntmps13
        go_wp2_with fail
        refine (is_yes g P _ hp p0).mono ?_
        rintro e w' ⟨rfl, rfl⟩
        go_wp2_with fail
        refine (at_yes g P p k _ hp H1.out p1).mono ?_
        rw [HJ.out]
        rintro e w' ⟨rfl, rfl⟩
        go_wp2_with fail
        refine (few_any i _).mono ?_
        rw [H2.out]
        rintro e w' ⟨rfl, rfl⟩
        go_wp2_with fail
        refine (few_any o _).mono ?_
        rw [H3.out]
        rintro e w' ⟨rfl, rfl⟩
        go_wp2_with fail
        go_quiet ((go_at_call 10; exact Calls.quiet_of_same ((pair_any i o _).mono fun _ _ h => ⟨h.1, h.2.symm⟩)))
        rcases OA.out with ⟨l1, q1⟩ | ⟨l1, q1⟩ | ⟨l1, q1⟩
        · have L1 := Lib.hid l1
          clear l1
          go_wp2_with fail
          go_ret
          exact FF.out _ (FU.out.2 (.inl L1.out))
        all_goals
          have L1 := Lib.hid l1
          clear l1
          rcases OB.out with ⟨l2, q2⟩ | ⟨l2, q2⟩ | ⟨l2, q2⟩
          · have L2 := Lib.hid l2
            clear l2
            go_wp2_with fail
            go_ret
            exact FF.out _ (FU.out.2 (.inr L2.out))
          all_goals
            have L2 := Lib.hid l2
            clear l2
            go_wp2_with fail
            go_ret
            exact FO.out _ (fun h => by have := FU.out.1 h; have := L1.out; have := L2.out; omega)
  · have FIN := Lib.hid (added_bad (i := i) (o := o) ht (show ¬ ok2 P p k i o by unfold ok2; exact fun h => h1 h.1))
    have H1 := Lib.hid h1
    clear h1
    go_enter Try.func13, Try.ntmps13
    go_wp2_with fail
    refine (is_yes g P _ hp p0).mono ?_
    rintro e w' ⟨rfl, rfl⟩
    go_wp2_with fail
    refine (at_no g P p k _ hp H1.out p0).mono ?_
    rintro e w' ⟨rfl, rfl⟩
    go_wp2_with fail
    go_ret
    exact FIN.out

def getIn (P : Int) (f : Counts) (p k : Int) : Nat × Nat := if inT P p k then f (ix p k) else (0, 0)
theorem tget_any (g : Nat) (P p k : Int) (f : Counts) (w : World) (ht : TallyAt w g P f) :
    Calls Try.prog 14 #[.pointer (some ⟨g, 0, none⟩), .int .i64 p, .int .i64 k] w fun e w' => e = .returned (.tuple #[.int .i64 (getIn P f p k).1, .int .i64 (getIn P f p k).2]) ∧ w = w' := by
  have hp := ht.peers
  have p0 := ht.p0
  have p1 := ht.p1
  by_cases h1 : inT P p k
  · have hix : ix p k < 128 := by unfold inT at h1; unfold ix; omega
    have hc := ht.at_ _ hix
    have hb := Lib.hid (ht.few (ix p k))
    have HG := Lib.hid (show getIn P f p k = f (ix p k) by rw [getIn, if_pos h1])
    have H1 := Lib.hid h1
    clear h1 hix ht
    generalize hJ : ix p k = J at *
    have HJ := Lib.hid hJ
    clear hJ
    go_enter Try.func14, Try.ntmps14
    go_wp2_with fail
    refine (at_yes g P p k _ hp H1.out p1).mono ?_
    rw [HJ.out]
    rintro e w' ⟨rfl, rfl⟩
    go_wp2_with fail
    refine (parts_fl _ _ (by have := hb.out; omega) (by have := hb.out; omega) _).mono ?_
    rintro e w' ⟨rfl, rfl⟩
    go_wp2_with fail
    go_ret2
    exact ⟨by rw [HG.out]; rfl, rfl⟩
  · have HG := Lib.hid (show getIn P f p k = (0, 0) by rw [getIn, if_neg h1])
    have H1 := Lib.hid h1
    clear h1
    go_enter Try.func14, Try.ntmps14
    go_wp2_with fail
    refine (at_no g P p k _ hp H1.out p0).mono ?_
    rintro e w' ⟨rfl, rfl⟩
    go_wp2_with fail
    go_ret2
    exact ⟨by rw [HG.out]; rfl, rfl⟩
end Go.Proofs.Ytphicjokogljcaa
