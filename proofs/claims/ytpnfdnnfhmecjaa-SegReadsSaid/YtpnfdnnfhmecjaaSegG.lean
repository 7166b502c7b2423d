/-
  The walk of seg.greatest.
-/
import Derived.Test.YtpnfdnnfhmecjaaSegF
import Derived.ScopeJumps
namespace Go.Proofs.Ytpnfdnnfhmecjaa
open Go.RowKit
set_option linter.unusedVariables false

section
variable {x : UInt8} {r : List UInt8} {n : Nat}
theorem gre_nil : gre n [] = some n := by rw [gre]
theorem gre_0 (h : x.toNat = 0) : gre n (x :: r) = some n := by rw [gre, if_pos h]
theorem gre_1 (h : x.toNat = 1) : gre n (x :: r) = gre n r := by rw [gre, if_neg (by omega), if_pos h]
theorem gre_bad (h0 : x.toNat ≠ 0) (h1 : x.toNat ≠ 1) (h : r.length = 0 ∨ (r.getD 0 0).toNat < 2 ∨ r.length + 1 < (r.getD 0 0).toNat) : gre n (x :: r) = none := by rw [gre, if_neg h0, if_neg h1, if_pos h]
theorem gre_2bad (h2 : x.toNat = 2) (h4 : (r.getD 0 0).toNat ≠ 4) : gre n (x :: r) = none := by
  by_cases h : r.length = 0 ∨ (r.getD 0 0).toNat < 2 ∨ r.length + 1 < (r.getD 0 0).toNat
  · exact gre_bad (by omega) (by omega) h
  · rw [gre, if_neg (by omega), if_neg (by omega), if_neg h, if_pos h2, if_neg h4]
theorem gre_2 (h2 : x.toNat = 2) (hl : 3 ≤ r.length) (h4 : (r.getD 0 0).toNat = 4) : gre n (x :: r) = gre (get2 (x :: r) 2) ((x :: r).drop 4) := by
  rw [gre, if_neg (by omega), if_neg (by omega), if_neg (by omega), if_pos h2, if_pos h4]
  rfl
theorem gre_on (h0 : x.toNat ≠ 0) (h1 : x.toNat ≠ 1) (h2 : x.toNat ≠ 2) (h : ¬ (r.length = 0 ∨ (r.getD 0 0).toNat < 2 ∨ r.length + 1 < (r.getD 0 0).toNat)) : gre n (x :: r) = gre n ((x :: r).drop (r.getD 0 0).toNat) := by
  rw [gre, if_neg h0, if_neg h1, if_neg h, if_neg h2]
  obtain ⟨k, hk⟩ : ∃ k, (r.getD 0 0).toNat = k + 1 := ⟨(r.getD 0 0).toNat - 1, by omega⟩
  rw [hk]
  rfl
end
def slen : Value → Nat | .slice _ n _ => n | _ => 0
def glen (a : Act) (_ : World) : Nat := slen (a.tmps.getD 0 (.int .i64 0))
def GJ (o : List UInt8) (w : World) (a' : Act) (w' : World) : Prop :=
  ∃ (r : List UInt8) (A' : Option Addr) (n' c' m : Nat), Sl w' A' c' r ∧ r.length = n' ∧ gre m r = gre 0 o ∧ Drawn w w' ∧ n' ≤ 70000 ∧ m ≤ 65535 ∧ ∃ z : Int, z = (m : Int) ∧ ∃ u1 u5 u6 u7 u8 u9 u10 u11 u12 u13 u14 u15 u16 u17 u18 u19 u20 u21 u22 u23 u24 u25 u26 u27 u28 u29 u30 u31 u32 u33 u34 u35 u36 u37 u38 u39 u40 u41 u42 u43 u44 u45 u46 u47 u48 u49 u50 u51 u52 u53 u54 : Value, a' = { tmps := #[.slice A' n' c', u1, .int .i64 0, .bool false, .int .i64 z, u5, u6, u7, u8, u9, u10, u11, u12, u13, u14, u15, u16, u17, u18, u19, u20, u21, u22, u23, u24, u25, u26, u27, u28, u29, u30, u31, u32, u33, u34, u35, u36, u37, u38, u39, u40, u41, u42, u43, u44, u45, u46, u47, u48, u49, u50, u51, u52, u53, u54], defers := [] }

set_option maxHeartbeats 8000000 in
set_option maxRecDepth 100000 in
theorem greatest_n (A : Option Addr) (o : List UInt8) (n c : Nat) (w : World) (hn : o.length = n) (hs : Sl w A c o) (hl : n ≤ 70000) :
    Calls Try.prog 34 #[.slice A n c] w fun e w' => e = .returned (.tuple #[.int .i64 (((gre 0 o).getD 0 : Nat) : Int), .bool (gre 0 o).isSome]) ∧ Drawn w w' := by
  have HS := Lib.hid hs
  have HN := Lib.hid hn
  clear hs hn
  go_enter Try.func34, Try.ntmps34
  go_wp2
  refine wp_scope_jumps 0 (GJ o w) glen rfl ?first ?pass
  case' first =>
    go_wp2
    go_step3
    change Exit.then _ _ _ { tmps := #[Value.slice A n c, undef, Value.int .i64 0, Value.bool false, Value.int .i64 (Int.ofNat 0), undef, undef, undef, undef, undef, undef, undef, undef, undef, undef, undef, undef, undef, undef, undef, undef, undef, undef, undef, undef, undef, undef, undef, undef, undef, undef, undef, undef, undef, undef, undef, undef, undef, undef, undef, undef, undef, undef, undef, undef, undef, undef, undef, undef, undef, undef, undef, undef, undef, undef], defers := [] } _
    obtain ⟨r, A', n', c', m, w', ew, eA, en, ec, hs, hn, hg, hd, hn7, hm6, hz⟩ : ∃ (r : List UInt8) (A' : Option Addr) (n' c' m : Nat) (w' : World), w' = w ∧ A' = A ∧ n' = n ∧ c' = c ∧ Sl w' A' c' r ∧ r.length = n' ∧ gre m r = gre 0 o ∧ Drawn w w' ∧ n' ≤ 70000 ∧ m ≤ 65535 ∧ Int.ofNat 0 = (m : Int) :=
      ⟨o, A, n, c, 0, w, rfl, rfl, rfl, rfl, HS.out, HN.out, rfl, Drawn.refl _, hl, by omega, rfl⟩
    rw [← ew, ← eA, ← en, ← ec]
    clear ew eA en ec HS HN hl
    generalize Int.ofNat 0 = z at hz ⊢
  case' pass =>
    rintro a' w' ⟨r, A', n', c', m, hs, hn, hg, hd, hn7, hm6, z, hz, u1, u5, u6, u7, u8, u9, u10, u11, u12, u13, u14, u15, u16, u17, u18, u19, u20, u21, u22, u23, u24, u25, u26, u27, u28, u29, u30, u31, u32, u33, u34, u35, u36, u37, u38, u39, u40, u41, u42, u43, u44, u45, u46, u47, u48, u49, u50, u51, u52, u53, u54, rfl⟩
    clear HS HN hl
  all_goals
    have HSL := Lib.hid hs
    have HLN0 := Lib.hid hn
    have HG := Lib.hid hg
    have HD := Lib.hid hd
    have HZ := Lib.hid hz
    clear hs hn hg hd hz
    rcases r with _ | ⟨x, r'⟩
    · obtain rfl : n' = 0 := HLN0.out.symm
      have HE : Hid (gre 0 o = some m) := by show _ = _; rw [← HG.out, gre_nil]
      go_wp2_with fail
      simp only [Exit.jump]
      go_ret2
      exact ⟨by rw [HE.out, HZ.out]; rfl, HD.out⟩
    · have hnl : n' = r'.length + 1 := HLN0.out.symm
      have hn1 : (1 : Int) ≤ n' := by omega
      have HNL := Lib.hid hnl
      clear hnl
      obtain ⟨b, off, rfl, hc⟩ := HSL.out.1.at_ (by simp)
      have c0 := hc 0 (by simp)
      rw [Nat.add_zero] at c0
      simp only [List.getD_cons_zero] at c0
      have hcap : (n' : Int) ≤ c' := by have := HSL.out.2.1; rw [HLN0.out] at this; omega
      have hx := x.toNat_lt
      by_cases x0 : x.toNat = 0
      · rw [x0] at c0
        have HE : Hid (gre 0 o = some m) := by show _ = _; rw [← HG.out, gre_0 x0]
        clear hc hx x0
        go_wp2_with fail
        simp only [Exit.jump]
        go_ret2
        exact ⟨by rw [HE.out, HZ.out]; rfl, HD.out⟩
      · by_cases x1 : x.toNat = 1
        · rw [x1] at c0
          have HGN : Hid (gre m r' = gre 0 o) := by show _ = _; rw [← HG.out, gre_1 x1]
          have hcut := HSL.out.cut 1 (by rw [HLN0.out]; omega)
          simp only [List.drop_one, List.tail_cons, Option.map_some, add_lit'] at hcut
          obtain ⟨AA, EA⟩ : ∃ AA, (if c' = 1 then some (⟨b, off, none⟩ : Addr) else some (⟨b, off + 1, none⟩ : Addr)) = AA := ⟨_, rfl⟩
          rw [EA] at hcut
          have HSN := Lib.hid hcut
          have HLN : Hid (r'.length = n' - 1) := by show _ = _; have := HNL.out; omega
          have HD1 := Lib.hid HD.out
          have HD2 : Hid (Drawn w' w') := Drawn.refl _
          clear hc hx x0 x1 hcut
          have hc1 : (1 : Int) ≤ c' := by omega
          go_wp2_with fail
          go_step3
          first
            | exact ⟨rfl, r', AA, _, _, m, HSN.out, HLN.out, HGN.out, (by first | exact HD1.out | exact HD2.out), (by omega), (by omega), _, HZ.out, _, _, _, _, _, _, _, _, _, _, _, _, _, _, _, _, _, _, _, _, _, _, _, _, _, _, _, _, _, _, _, _, _, _, _, _, _, _, _, _, _, _, _, _, _, _, _, _, _, _, _, rfl⟩
            | exact ⟨rfl, ⟨r', AA, _, _, m, HSN.out, HLN.out, HGN.out, (by first | exact HD1.out | exact HD2.out), (by omega), (by omega), _, HZ.out, _, _, _, _, _, _, _, _, _, _, _, _, _, _, _, _, _, _, _, _, _, _, _, _, _, _, _, _, _, _, _, _, _, _, _, _, _, _, _, _, _, _, _, _, _, _, _, _, _, _, _, rfl⟩, (by show n' - 1 < n'; omega)⟩
        · have h0 : ((x.toNat : Int) == 0) = false := by simp; omega
          have h1 : ((x.toNat : Int) == 1) = false := by simp; omega
          rcases r' with _ | ⟨y, r''⟩
          · have hn2 : (n' : Int) < 2 := by have := HNL.out; simp at this; omega
            have HE : Hid (gre 0 o = none) := by show _ = _; rw [← HG.out, gre_bad x0 x1 (.inl rfl)]
            clear hc hx x0 x1
            go_wp2_with fail
            simp only [Exit.jump]
            go_ret2
            exact ⟨by rw [HE.out]; rfl, HD.out⟩
          · have hn2 : ¬ (n' : Int) < 2 := by have := HNL.out; simp at this; omega
            have hni : (1 : Int) < (n' : Int) := by omega
            have c1 := hc 1 (by simp)
            simp only [List.getD_cons_succ, List.getD_cons_zero] at c1
            have hy := y.toNat_lt
            by_cases y2 : (y.toNat : Int) < 2
            · have HE : Hid (gre 0 o = none) := by show _ = _; rw [← HG.out, gre_bad x0 x1 (.inr (.inl (by show y.toNat < 2; omega)))]
              clear hc hx x0 x1
              go_wp2_with fail
              simp only [Exit.jump]
              go_ret2
              exact ⟨by rw [HE.out]; rfl, HD.out⟩
            · by_cases yn : (n' : Int) < (y.toNat : Int)
              · have HE : Hid (gre 0 o = none) := by show _ = _; rw [← HG.out, gre_bad x0 x1 (.inr (.inr (by show (y :: r'').length + 1 < y.toNat; have := HNL.out; omega)))]
                clear hc hx x0 x1
                go_wp2_with fail
                simp only [Exit.jump]
                go_ret2
                exact ⟨by rw [HE.out]; rfl, HD.out⟩
              · by_cases x2 : x.toNat = 2
                · by_cases y4 : y.toNat = 4
                  · have hn4 : (4 : Int) ≤ (n' : Int) := by omega
                    have HGN : Hid (gre (get2 (x :: y :: r'') 2) ((x :: y :: r'').drop 4) = gre 0 o) := by show _ = _; rw [← HG.out, gre_2 (r := y :: r'') x2 (by have := HNL.out; omega) y4]
                    have hcut := HSL.out.cut 4 (by rw [HLN0.out]; omega)
                    simp only [Option.map_some, add_lit'] at hcut
                    obtain ⟨AA, EA⟩ : ∃ AA, (if c' = 4 then some (⟨b, off, none⟩ : Addr) else some (⟨b, off + 4, none⟩ : Addr)) = AA := ⟨_, rfl⟩
                    rw [EA] at hcut
                    have HSN := Lib.hid hcut
                    have HLN : Hid (((x :: y :: r'').drop 4).length = n' - 4) := by show _ = _; rw [List.length_drop, HLN0.out]
                    have HM : Hid (get2 (x :: y :: r'') 2 ≤ 65535) := by have := get2_bd (x :: y :: r'') 2; show _ ≤ _; omega
                    have G16 := Lib.hid (get16_n (off := off) 2 (off + 2) (n' - 2) (c' - 2) w' HSL.out.1 rfl (by have := HLN0.out; omega) (by omega))
                    have x2' := Lib.hid x2
                    rw [x2] at c0
                    rw [y4] at c1
                    clear hc hx hy x0 x1 hcut h0 h1 y2 yn x2 y4
                    have hc2 : ¬ c' = 2 := by omega
                    have hc4 : (4 : Int) ≤ c' := by omega
                    obtain ⟨M2, EM⟩ : ∃ M2, Hid (get2 (x :: y :: r'') 2 = M2) := ⟨_, rfl⟩
                    rw [EM.out] at G16 HGN HM
                    go_wp2_with fail
                    refine G16.out.mono ?_
                    rintro e w2 ⟨rfl, hd2⟩
                    have HD1 := Lib.hid (HD.out.trans hd2)
                    have HD2 := Lib.hid hd2
                    replace HSN := Lib.hid (HSN.out.drawn hd2)
                    replace c1 := (hd2.cell _).trans c1
                    clear hd2 G16 c0
                    go_wp2_with fail
                    go_step3
                    first
                      | exact ⟨rfl, ((x :: y :: r'').drop 4), AA, _, _, M2, HSN.out, HLN.out, HGN.out, (by first | exact HD1.out | exact HD2.out), (by omega), HM.out, _, rfl, _, _, _, _, _, _, _, _, _, _, _, _, _, _, _, _, _, _, _, _, _, _, _, _, _, _, _, _, _, _, _, _, _, _, _, _, _, _, _, _, _, _, _, _, _, _, _, _, _, _, _, rfl⟩
                      | exact ⟨rfl, ⟨((x :: y :: r'').drop 4), AA, _, _, M2, HSN.out, HLN.out, HGN.out, (by first | exact HD1.out | exact HD2.out), (by omega), HM.out, _, rfl, _, _, _, _, _, _, _, _, _, _, _, _, _, _, _, _, _, _, _, _, _, _, _, _, _, _, _, _, _, _, _, _, _, _, _, _, _, _, _, _, _, _, _, _, _, _, _, _, _, _, _, rfl⟩, (by show n' - 4 < n'; omega)⟩
                  · have h4 : ((y.toNat : Int) != 4) = true := by simp; omega
                    have HE : Hid (gre 0 o = none) := by show _ = _; rw [← HG.out, gre_2bad (r := y :: r'') x2 y4]
                    rw [x2] at c0
                    clear hc hx x0 x1 h0 h1 x2
                    go_wp2_with fail
                    simp only [Exit.jump]
                    go_ret2
                    exact ⟨by rw [HE.out]; rfl, HD.out⟩
                · have h2 : ((x.toNat : Int) == 2) = false := by simp; omega
                  have HGN : Hid (gre m ((x :: y :: r'').drop y.toNat) = gre 0 o) := by
                    show _ = _
                    rw [← HG.out, gre_on x0 x1 x2 (by show ¬ ((y :: r'').length = 0 ∨ y.toNat < 2 ∨ (y :: r'').length + 1 < y.toNat); have := HNL.out; simp only [List.length_cons] at this ⊢; omega)]
                    rfl
                  have hcut := HSL.out.cut y.toNat (by rw [HLN0.out]; omega)
                  simp only [Option.map_some, add_lit'] at hcut
                  obtain ⟨AA, EA⟩ : ∃ AA, (if c' = y.toNat then some (⟨b, off, none⟩ : Addr) else some (⟨b, off + y.toNat, none⟩ : Addr)) = AA := ⟨_, rfl⟩
                  rw [EA] at hcut
                  have HSN := Lib.hid hcut
                  have HLN : Hid (((x :: y :: r'').drop y.toNat).length = n' - y.toNat) := by show _ = _; rw [List.length_drop, HLN0.out]
                  have HD1 := Lib.hid HD.out
                  have HD2 : Hid (Drawn w' w') := Drawn.refl _
                  clear hc hx x0 x1 hcut x2
                  have hyc : (y.toNat : Int) ≤ c' := by omega
                  go_wp2_with fail
                  go_step3
                  first
                    | exact ⟨rfl, ((x :: y :: r'').drop y.toNat), AA, _, _, m, HSN.out, HLN.out, HGN.out, (by first | exact HD1.out | exact HD2.out), (by omega), (by omega), _, HZ.out, _, _, _, _, _, _, _, _, _, _, _, _, _, _, _, _, _, _, _, _, _, _, _, _, _, _, _, _, _, _, _, _, _, _, _, _, _, _, _, _, _, _, _, _, _, _, _, _, _, _, _, rfl⟩
                    | exact ⟨rfl, ⟨((x :: y :: r'').drop y.toNat), AA, _, _, m, HSN.out, HLN.out, HGN.out, (by first | exact HD1.out | exact HD2.out), (by omega), (by omega), _, HZ.out, _, _, _, _, _, _, _, _, _, _, _, _, _, _, _, _, _, _, _, _, _, _, _, _, _, _, _, _, _, _, _, _, _, _, _, _, _, _, _, _, _, _, _, _, _, _, _, _, _, _, _, rfl⟩, (by show n' - y.toNat < n'; omega)⟩
end Go.Proofs.Ytpnfdnnfhmecjaa
