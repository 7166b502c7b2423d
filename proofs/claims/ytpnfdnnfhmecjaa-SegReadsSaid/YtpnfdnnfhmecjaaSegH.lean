/-
  The walk of the reference's options.
-/
import Derived.Test.YtpnfdnnfhmecjaaSegG
namespace Go.Proofs.Ytpnfdnnfhmecjaa
open Go.RowKit
set_option linter.unusedVariables false

set_option maxHeartbeats 8000000 in
set_option maxRecDepth 100000 in
theorem options_n (A : Option Addr) (o : List UInt8) (n c : Nat) (w : World) (hn : o.length = n) (hs : Sl w A c o) (hl : n ≤ 70000) :
    Calls Try.prog 37 #[.slice A n c] w fun e w' => e = .returned (.tuple #[.int .i64 (((gre 0 o).getD 0 : Nat) : Int), .bool (gre 0 o).isSome]) ∧ Drawn w w' := by
  have HSW := Lib.hid hs
  have HN := Lib.hid hn
  have hcap : (n : Int) ≤ c := by have := hs.2.1; rw [hn] at this; omega
  clear hs hn
  go_enter Try.func37, Try.ntmps37
  go_wp2
  go_loopw [4, 5] (fun v i wr => ∃ k m : Nat, k ≤ n ∧ m ≤ 65535 ∧ i = .int .i64 (k : Int) ∧ v = .int .i64 (m : Int) ∧ gre m (o.drop k) = gre 0 o ∧ Drawn w wr) (fun _ i _ => n - (intOf i).toNat)
  case atStart => exact ⟨0, 0, by omega, by omega, rfl, rfl, by rw [List.drop_zero], Drawn.refl _⟩
  case round =>
    obtain ⟨k, m, hk, hm6, rfl, rfl, hg, hd⟩ := hrel
    have HG := Lib.hid hg
    have HD := Lib.hid hd
    clear hg hd
    by_cases hlt : k < n
    · have hs := HSW.out.drawn HD.out
      obtain ⟨b, off, rfl, hc⟩ := hs.1.at_ (by rw [HN.out]; omega)
      have c0 := hc k (by rw [HN.out]; exact hlt)
      have hdk : o.drop k = o.getD k 0 :: o.drop (k + 1) := by
        rw [List.drop_eq_getElem_cons (by rw [HN.out]; exact hlt)]
        simp [List.getD_eq_getElem?_getD, List.getElem?_eq_getElem (show k < o.length by rw [HN.out]; exact hlt)]
      rw [hdk] at HG
      have HDK := Lib.hid hdk
      clear hdk
      obtain ⟨x, EX⟩ : ∃ x, Hid (o.getD k 0 = x) := ⟨_, rfl⟩
      rw [EX.out] at c0 HG HDK
      have hx := x.toNat_lt
      by_cases x0 : x.toNat = 0
      · rw [x0] at c0
        have HE : Hid (gre 0 o = some m) := by show _ = _; rw [← HG.out, gre_0 x0]
        clear hc hx x0 hs
        go_wp2_with fail
        go_ret2
        exact ⟨by rw [HE.out]; rfl, HD.out⟩
      · by_cases x1 : x.toNat = 1
        · rw [x1] at c0
          have HGN : Hid (gre m (o.drop (k + 1)) = gre 0 o) := by show _ = _; rw [← HG.out, gre_1 x1]
          clear hc hx x0 x1 hs
          go_wp2_with fail
          go_roundw
          case rel => exact ⟨k + 1, m, by omega, by omega, by go_num, rfl, HGN.out, HD.out⟩
          case measure => simp [intOf]; omega
        · have h0 : ((x.toNat : Int) == 0) = false := by simp; omega
          have h1 : ((x.toNat : Int) == 1) = false := by simp; omega
          by_cases hn2 : (n : Int) ≤ (k : Int) + 1
          · have HE : Hid (gre 0 o = none) := by show _ = _; rw [← HG.out, gre_bad x0 x1 (.inl (by rw [List.length_drop, HN.out]; omega))]
            clear hc hx x0 x1 hs
            go_wp2_with fail
            go_ret2
            exact ⟨by rw [HE.out]; rfl, HD.out⟩
          · have c1 := hc (k + 1) (by rw [HN.out]; omega)
            have hy0 : (o.drop (k + 1)).getD 0 0 = o.getD (k + 1) 0 := by simp only [List.getD_eq_getElem?_getD, List.getElem?_drop, Nat.add_zero]
            obtain ⟨y, EY⟩ : ∃ y, Hid (o.getD (k + 1) 0 = y) := ⟨_, rfl⟩
            rw [EY.out] at c1 hy0
            have HY0 := Lib.hid hy0
            clear hy0
            have hy := y.toNat_lt
            have hni : (k : Int) + 1 < (n : Int) := by omega
            by_cases y2 : (y.toNat : Int) < 2
            · have HE : Hid (gre 0 o = none) := by show _ = _; rw [← HG.out, gre_bad x0 x1 (.inr (.inl (by rw [HY0.out]; omega)))]
              clear hc hx x0 x1 hs
              go_wp2_with fail
              go_ret2
              exact ⟨by rw [HE.out]; rfl, HD.out⟩
            · by_cases yn : (n : Int) - (k : Int) < (y.toNat : Int)
              · have HE : Hid (gre 0 o = none) := by show _ = _; rw [← HG.out, gre_bad x0 x1 (.inr (.inr (by rw [HY0.out, List.length_drop, HN.out]; omega)))]
                clear hc hx x0 x1 hs
                go_wp2_with fail
                go_ret2
                exact ⟨by rw [HE.out]; rfl, HD.out⟩
              · by_cases x2 : x.toNat = 2
                · by_cases y4 : y.toNat = 4
                  · have hn4 : (k : Int) + 4 ≤ (n : Int) := by omega
                    have HGN : Hid (gre (get2 o (k + 2)) (o.drop (k + 4)) = gre 0 o) := by
                      show _ = _
                      rw [← HG.out, gre_2 x2 (by rw [List.length_drop, HN.out]; omega) (by rw [HY0.out]; exact y4), ← HDK.out, List.drop_drop]
                      congr 1
                      simp only [get2, List.getD_eq_getElem?_getD, List.getElem?_drop]
                    have HM : Hid (get2 o (k + 2) ≤ 65535) := by have := get2_bd o (k + 2); show _ ≤ _; omega
                    have NM := Lib.hid (num_n (off := off) (k + 2) (off + (k + 2)) 2 (c - (k + 2)) wr hs.1 rfl (by rw [HN.out]; omega) (by omega))
                    rw [x2] at c0
                    rw [y4] at c1
                    clear hc hx hy x0 x1 h0 h1 y2 yn x2 y4 hs
                    have hc2 : ¬ c = k + 2 := by omega
                    have hc4 : (k : Int) + 4 ≤ c := by omega
                    obtain ⟨M2, EM⟩ : ∃ M2, Hid (get2 o (k + 2) = M2) := ⟨_, rfl⟩
                    rw [EM.out] at NM HGN HM
                    go_wp2_with fail
                    refine NM.out.mono ?_
                    rintro e w2 ⟨rfl, hd2⟩
                    have HD1 := Lib.hid (HD.out.trans hd2)
                    replace c1 := (hd2.cell _).trans c1
                    clear hd2 NM c0
                    go_wp2_with fail
                    go_roundw
                    case rel => exact ⟨k + 4, M2, by omega, HM.out, by go_num, rfl, HGN.out, HD1.out⟩
                    case measure => simp [intOf]; omega
                  · have h4 : ((y.toNat : Int) != 4) = true := by simp; omega
                    have HE : Hid (gre 0 o = none) := by show _ = _; rw [← HG.out, gre_2bad x2 (by rw [HY0.out]; exact y4)]
                    rw [x2] at c0
                    clear hc hx x0 x1 h0 h1 x2 hs
                    go_wp2_with fail
                    go_ret2
                    exact ⟨by rw [HE.out]; rfl, HD.out⟩
                · have h2 : ((x.toNat : Int) == 2) = false := by simp; omega
                  have HGN : Hid (gre m (o.drop (k + y.toNat)) = gre 0 o) := by
                    show _ = _
                    rw [← HG.out, gre_on x0 x1 x2 (by rw [HY0.out, List.length_drop, HN.out]; omega), HY0.out, ← HDK.out, List.drop_drop]
                  clear hc hx x0 x1 x2 hs
                  go_wp2_with fail
                  go_roundw
                  case rel => exact ⟨k + y.toNat, m, by omega, by omega, by go_num, rfl, HGN.out, HD.out⟩
                  case measure => simp [intOf]; omega
    · obtain rfl : k = n := by omega
      have HE : Hid (gre 0 o = some m) := by show _ = _; rw [← HG.out, List.drop_eq_nil_of_le (by rw [HN.out]; exact Nat.le_refl _), gre_nil]
      go_wp2_with fail
      go_ret2
      exact ⟨by rw [HE.out]; rfl, HD.out⟩
end Go.Proofs.Ytpnfdnnfhmecjaa
