/-
  The walk of the law JoinPlays.
-/
import Derived.Test.YtfijbbhoemdhbaaPlaysA
namespace Go.Proofs.Ytfijbbhoemdhbaa
open Go.RowKit
set_option linter.unusedVariables false

set_option maxHeartbeats 16000000 in
set_option maxRecDepth 100000 in
theorem joinPlays_walk (next room : Int) (a : Option Addr) (len cap : Nat) (w : World) (n0 : 0 ≤ next) (n1 : next < 4294967296) (ha : Acts w a len) (hl : len ≤ 9223372036854775807) :
    Calls Try.prog 4 #[.int .u32 next, .int .i64 room, .slice a len cap] w fun e w' => e = .returned (.bool true) ∧ Below w.heap.size w w' := by
  have HA := Lib.hid ha
  have HL := Lib.hid hl
  clear ha hl
  by_cases hroom : 1 ≤ room ∧ room ≤ 65535
  · obtain ⟨r0, r1⟩ := hroom
    obtain ⟨rm, rfl⟩ := Int.eq_ofNat_of_zero_le (show 0 ≤ room by omega)
    have JN := Lib.hid (fun w => jnew_any next rm w n0 n1 (by omega) (by omega))
    have RN := Lib.hid (fun w => rjnew_any next (rm : Int) w r0 r1)
    have RM1 : Hid (rm ≤ 65535) := by show _ ≤ _; omega
    clear r0 r1 n0 n1
    go_enter Try.func4, Try.ntmps4
    go_wp2_with fail
    refine (JN.out _).mono ?_
    rintro e w1 ⟨g, R, T, rfl, hj, hb, h1, h2, h3⟩
    have hi := JIn.of_new (Below.refl w.heap.size w) (Nat.le_refl _) hj hb h1 h2 h3
    have HI := Lib.hid hi
    clear hj hb h1 h2 h3 hi
    go_wp2_with fail
    refine (RN.out _).mono ?_
    rintro e w2 ⟨rfl, hr, hb⟩
    have hp : Pair w w2 g R T w1.heap.size none 0 (newS next rm) none 0 next rm [] none 0 [] := ⟨HI.out.below hb, ⟨hr.blk, hr.got, ⟨hr.held.1, hr.held.2.imp id (fun ⟨g, cap, cur, a, b, q⟩ => ⟨g, cap, cur, a, Nat.le_trans HI.out.sz b, q⟩)⟩, Nat.le_trans HI.out.sz (Nat.le_refl _)⟩, fun i _ e => by simp [Value.ownBlock] at e⟩
    have HP : Hid (TwoJ w w2 g R T w1.heap.size rm) := ⟨none, 0, newS next rm, none, 0, none, 0, [], hp, new_rel next rm, by simp [newS]⟩
    clear hr hb hp HI JN RN
    obtain ⟨h, EH⟩ : ∃ z, Hid (w1.heap.size = z) := ⟨_, rfl⟩
    rw [EH.out] at HP ⊢
    clear EH
    go_wp2_with fail
    go_loopw [11] (fun i wr => ∃ k : Nat, k ≤ 40 ∧ i = .int .i64 k ∧ TwoJ w wr g R T h rm) (fun i _ => 40 - (intOf i).toNat)
    case atStart => exact ⟨0, Nat.zero_le _, rfl, HP.out⟩
    case round =>
      clear HP
      obtain ⟨k, hk, rfl, hp⟩ := hrel
      by_cases hkl : (k : Int) < len ∧ (k : Int) < 40
      · obtain ⟨q1, q2⟩ := hkl
        rcases HA.out with h0 | ⟨b, off, rfl, hact⟩
        · omega
        obtain ⟨dn, n, t, Bq, bc, bs, c0, c1, c2, c3, hs, wd, wn, wt⟩ := hact k (by omega)
        obtain ⟨⟨A, c, s, A', c', D, dd, L, P, REL, RING⟩⟩ := hp
        have hlow : Hid (∀ a, Bq = some a → 0 < bs.length → a.block < w.heap.size) := by
          intro a ea hp
          obtain ⟨b', off', e', hc'⟩ := hs.1.at_ hp
          rw [e'] at ea
          injection ea with ea
          subst ea
          have i2 := World.block_lt_of_cell? w _ (hc' 0 hp)
          simpa using i2
        replace c0 := keep_below P.j.bel _ _ c0
        replace c1 := keep_below P.j.bel _ _ c1
        replace c2 := keep_below P.j.bel _ _ c2
        replace c3 := keep_below P.j.bel _ _ c3
        have hba := (Below.refl wr.heap.size wr).alloc (Nat.le_refl _) (.cells #[.int .i64 dn, .int .i64 n, .int .u32 t, .slice Bq bs.length bc] 48)
        have HSW := Lib.hid hs
        have HS := Lib.hid ((hs.below P.j.bel).below hba)
        have HX := Lib.hid (blk_new wr 48 #[.int .i64 dn, .int .i64 n, .int .u32 t, .slice Bq bs.length bc])
        have JG : Hid (∀ i, JF g R T A i → i ≠ wr.heap.size) := fun i hi e => by have := P.j.at_.jf_lt i hi; omega
        have HP2 := Lib.hid (P.below hba)
        have HREL := Lib.hid REL
        have HRING := Lib.hid RING
        have ht := bounds_u32 wt
        clear P REL RING hs hba hact
        go_wp2_with fail
        generalize wr.alloc (.cells #[.int .i64 dn, .int .i64 n, .int .u32 t, .slice Bq bs.length bc] 48) = w3 at *
        generalize wr.heap.size = G at *
        clear c0 c1 c2 c3
        refine (among_any dn 5 _ (by omega) (by omega)).mono ?_
        rintro e w4 ⟨rfl, rfl⟩
        have b5 := among_bd dn 5 (by omega)
        generalize among dn 5 = dq at *
        have x1 : w3.cell? ⟨G, 1, none⟩ = some (.int .i64 n) := HX.out.cell 1
        have x2 : w3.cell? ⟨G, 2, none⟩ = some (.int .u32 t) := HX.out.cell 2
        have x3 : w3.cell? ⟨G, 3, none⟩ = some (.slice Bq bs.length bc) := HX.out.cell 3
        by_cases h4 : dq = 4
        · subst h4
          clear x2 x3 ht HS HSW hlow
          by_cases hn0 : n < 0
          · have JB := Lib.hid (jread_bad HP2.out.j.at_ n hn0)
            have RB := Lib.hid (rjread_bad HP2.out.r n hn0)
            clear hn0
            go_wp2_with fail
            refine JB.out.mono ?_
            rintro e wz ⟨rfl, rfl⟩
            go_wp2_with fail
            refine RB.out.mono ?_
            rintro e wz ⟨rfl, rfl⟩
            go_wp2_with fail
            refine (same_any none [] 0 none [] 0 _ (.inl rfl) (.inl rfl)).mono ?_
            rintro e wz ⟨rfl, rfl⟩
            rw [decide_eq_true rfl]
            clear JB RB x1 HX JG
            have HPz := HP2
            have HRz := HREL
            have HGz := HRING
            clear HP2 HREL HRING
            go_upto_region 24 with fail
            obtain ⟨nx, ENX⟩ : ∃ z, Hid (s.next = z) := ⟨_, rfl⟩
            obtain ⟨rl, ERL⟩ : ∃ z, Hid (s.ready.length = z) := ⟨_, rfl⟩
            obtain ⟨ll, ELL⟩ : ∃ z, Hid (L.length = z) := ⟨_, rfl⟩
            have PJ := HPz.out.j.at_
            have hle := room_le s PJ.inv
            have heq : s.held = (ll : Int) := by rw [← HRz.out.len, ELL.out]
            have hrl : s.ready.length ≤ rm := by have := PJ.inv.few; rw [HGz.out] at this; exact this
            rw [HGz.out, ERL.out, heq] at hle
            have C1 : Hid (∀ n, Calls Try.prog 15 #[.pointer (some ⟨g, 0, none⟩)] (w3.drewN n) fun e w' => e = .returned (.int .u32 nx) ∧ ∃ m, w' = w3.drewN m) := fun n => by
              have := Calls.quiet_of_same ((next_any (PJ.drewN n)).mono fun _ _ h => ⟨h.1, h.2.symm⟩)
              rw [ENX.out] at this
              exact this
            have C2 : Hid (∀ n, Calls Try.prog 19 #[.pointer (some ⟨g, 0, none⟩)] (w3.drewN n) fun e w' => e = .returned (.int .i64 ((rm : Int) - (rl : Int))) ∧ ∃ m, w' = w3.drewN m) := fun n => by
              have := Calls.quiet_of ((window_any (PJ.drewN n)).mono fun _ _ h => h)
              rw [HGz.out, ERL.out] at this
              exact this
            have C3 : Hid (∀ n, Calls Try.prog 20 #[.pointer (some ⟨h, 0, none⟩)] (w3.drewN n) fun e w' => e = .returned (.int .i64 ((rm : Int) - (rl : Int))) ∧ ∃ m, w' = w3.drewN m) := fun n => by
              have := Calls.quiet_of ((rjwindow_any (HPz.out.r.drawn ⟨n, rfl⟩) (by have := RM1.out; omega) (by omega)).mono fun _ _ h => h)
              rw [ERL.out] at this
              exact this
            have C4 : Hid (∀ n, Calls Try.prog 13 #[.pointer (some ⟨g, 0, none⟩)] (w3.drewN n) fun e w' => e = .returned (.int .i64 (rl : Int)) ∧ ∃ m, w' = w3.drewN m) := fun n => by
              have := Calls.quiet_of_same ((ready_any (PJ.drewN n)).mono fun _ _ h => ⟨h.1, h.2.symm⟩)
              rw [ERL.out] at this
              exact this
            have C5 : Hid (∀ n, Calls Try.prog 21 #[.pointer (some ⟨g, 0, none⟩)] (w3.drewN n) fun e w' => e = .returned (.int .i64 (ll : Int)) ∧ ∃ m, w' = w3.drewN m) := fun n => by
              have := Calls.quiet_of_same ((held_any (PJ.drewN n)).mono fun _ _ h => ⟨h.1, h.2.symm⟩)
              rw [heq] at this
              exact this
            have z0 : w3.cell? ⟨h, 0, none⟩ = some (.int .u32 s.next) := HPz.out.r.blk.cell 0
            have z2 : w3.cell? ⟨h, 2, none⟩ = some (.slice A' s.ready.length c') := HPz.out.r.blk.cell 2
            have z3 : w3.cell? ⟨h, 3, none⟩ = some (.slice D L.length dd) := HPz.out.r.blk.cell 3
            rw [ENX.out] at z0
            rw [ERL.out] at z2
            rw [ELL.out] at z3
            have hrm : rm ≤ 65535 := RM1.out
            have ew : IntKind.i64.wrap ((rl : Int) + (ll : Int)) = (rl : Int) + (ll : Int) := IntWalk.i64_in _ (by omega)
            have hgt : decide ((rm : Int) < (rl : Int) + (ll : Int)) = false := by simpa using hle
            clear PJ hle heq hrl hrm
            go_quiet ((first
              | (go_at_call 15; exact C1.out _)
              | (go_at_call 19; exact C2.out _)
              | (go_at_call 20; exact C3.out _)
              | (go_at_call 13; exact C4.out _)
              | (go_at_call 21; exact C5.out _)))
            have HW : Hid (TwoJ w (w3.drewN nq) g R T h rm) := ⟨_, _, s, _, _, _, _, L, HPz.out.below ((show Drawn w3 (w3.drewN nq) from ⟨nq, rfl⟩).below _), HRz.out, HGz.out⟩
            clear z0 z2 z3 ew hgt C1 C2 C3 C4 C5
            generalize w3.drewN nq = wy at *
            go_wp2_with fail
            go_roundw
            case rel => exact ⟨k + 1, by omega, by go_num, HW.out⟩
            case measure => simp [intOf]; omega
          · have hn1 : 0 ≤ n := by omega
            have JB := Lib.hid (read_in2 HP2.out.j n hn1)
            obtain ⟨m, EM⟩ : ∃ z, Hid ((min n (s.ready.length : Int)).toNat = z) := ⟨_, rfl⟩
            have RB := Lib.hid (fun (w' : World) (A2 : Option Addr) (c2 : Nat) (hr : RJ w' w.heap.size h s.next rm A2 c2 s.ready D dd L) => rjread_any hr n m hn1 (by have := HP2.out.j.at_.inv.few; have := HP2.out.j.at_.inv.room; omega) EM.out)
            rw [EM.out] at JB
            clear hn0 hn1
            go_wp2_with fail
            refine JB.out.mono ?_
            rintro e w5 ⟨A2, c2, X1, x1', rfl, hj5, hs5, hf5, hn5⟩
            obtain ⟨tl, LT⟩ : ∃ z, Hid ((s.ready.take m).length = z) := ⟨_, rfl⟩
            rw [LT.out]
            have HP5 := Lib.hid (HP2.out.joint hj5 hf5 hn5)
            have HX5 := Lib.hid (HX.out.keep (hf5.block G HX.out.lt (fun e => JG.out G e rfl)))
            have HS5 := Lib.hid hs5
            have x1b : w5.cell? ⟨G, 1, none⟩ = some (.int .i64 n) := HX5.out.cell 1
            have LE5 : Hid (∀ i, RF h D L.length dd i → i < w3.heap.size) := HP2.out.rf_lt
            clear hj5 hf5 hn5 hs5 x1 JB
            go_wp2_with fail
            refine (RB.out _ _ _ HP5.out.r).mono ?_
            rintro e w6 ⟨A3, c3, X2, x2', rfl, hr6, hs6, hf6, hg6⟩
            rw [LT.out]
            have HB6 : Hid (Bs w6 X1 (s.ready.take m)) := (own_framed HS5.out hf6 LE5.out).bs
            have HP6 := Lib.hid (HP5.out.ref hr6 hf6 (fun q hq => .inr (hg6 q hq)))
            have HS6 := Lib.hid hs6.1
            clear hr6 hs6 hf6 hg6 x1b HX HX5 RB HP5 HS5 HP2 LE5
            obtain ⟨tm, ET⟩ : ∃ z, Hid (s.ready.take m = z) := ⟨_, rfl⟩
            rw [ET.out] at HB6 HS6 LT
            have SM := Lib.hid (same_any X1 tm x1' X2 tm x2' w6 HB6.out HS6.out)
            rw [LT.out, decide_eq_true rfl] at SM
            go_wp2_with fail
            refine SM.out.mono ?_
            rintro e wz ⟨rfl, rfl⟩
            obtain ⟨s2, ES2⟩ : ∃ z, Hid (readS s m = z) := ⟨_, rfl⟩
            have HPz : Hid (Pair w w6 g R T h A2 c2 s2 A3 c3 s2.next rm s2.ready D dd L) := by rw [← ES2.out]; exact HP6.out
            have HRz : Hid (Rel s2 L) := by rw [← ES2.out]; exact read_rel HREL.out m
            have HGz : Hid (s2.ring.length = rm) := by rw [← ES2.out]; exact HRING.out
            clear HP6 HREL HRING ES2 HB6 HS6 JG ET EM SM LT
            go_upto_region 24 with fail
            obtain ⟨nx, ENX⟩ : ∃ z, Hid (s2.next = z) := ⟨_, rfl⟩
            obtain ⟨rl, ERL⟩ : ∃ z, Hid (s2.ready.length = z) := ⟨_, rfl⟩
            obtain ⟨ll, ELL⟩ : ∃ z, Hid (L.length = z) := ⟨_, rfl⟩
            have PJ := HPz.out.j.at_
            have hle := room_le s2 PJ.inv
            have heq : s2.held = (ll : Int) := by rw [← HRz.out.len, ELL.out]
            have hrl : s2.ready.length ≤ rm := by have := PJ.inv.few; rw [HGz.out] at this; exact this
            rw [HGz.out, ERL.out, heq] at hle
            have C1 : Hid (∀ n, Calls Try.prog 15 #[.pointer (some ⟨g, 0, none⟩)] (w6.drewN n) fun e w' => e = .returned (.int .u32 nx) ∧ ∃ m, w' = w6.drewN m) := fun n => by
              have := Calls.quiet_of_same ((next_any (PJ.drewN n)).mono fun _ _ h => ⟨h.1, h.2.symm⟩)
              rw [ENX.out] at this
              exact this
            have C2 : Hid (∀ n, Calls Try.prog 19 #[.pointer (some ⟨g, 0, none⟩)] (w6.drewN n) fun e w' => e = .returned (.int .i64 ((rm : Int) - (rl : Int))) ∧ ∃ m, w' = w6.drewN m) := fun n => by
              have := Calls.quiet_of ((window_any (PJ.drewN n)).mono fun _ _ h => h)
              rw [HGz.out, ERL.out] at this
              exact this
            have C3 : Hid (∀ n, Calls Try.prog 20 #[.pointer (some ⟨h, 0, none⟩)] (w6.drewN n) fun e w' => e = .returned (.int .i64 ((rm : Int) - (rl : Int))) ∧ ∃ m, w' = w6.drewN m) := fun n => by
              have := Calls.quiet_of ((rjwindow_any (HPz.out.r.drawn ⟨n, rfl⟩) (by have := RM1.out; omega) (by omega)).mono fun _ _ h => h)
              rw [ERL.out] at this
              exact this
            have C4 : Hid (∀ n, Calls Try.prog 13 #[.pointer (some ⟨g, 0, none⟩)] (w6.drewN n) fun e w' => e = .returned (.int .i64 (rl : Int)) ∧ ∃ m, w' = w6.drewN m) := fun n => by
              have := Calls.quiet_of_same ((ready_any (PJ.drewN n)).mono fun _ _ h => ⟨h.1, h.2.symm⟩)
              rw [ERL.out] at this
              exact this
            have C5 : Hid (∀ n, Calls Try.prog 21 #[.pointer (some ⟨g, 0, none⟩)] (w6.drewN n) fun e w' => e = .returned (.int .i64 (ll : Int)) ∧ ∃ m, w' = w6.drewN m) := fun n => by
              have := Calls.quiet_of_same ((held_any (PJ.drewN n)).mono fun _ _ h => ⟨h.1, h.2.symm⟩)
              rw [heq] at this
              exact this
            have z0 : w6.cell? ⟨h, 0, none⟩ = some (.int .u32 s2.next) := HPz.out.r.blk.cell 0
            have z2 : w6.cell? ⟨h, 2, none⟩ = some (.slice A3 s2.ready.length c3) := HPz.out.r.blk.cell 2
            have z3 : w6.cell? ⟨h, 3, none⟩ = some (.slice D L.length dd) := HPz.out.r.blk.cell 3
            rw [ENX.out] at z0
            rw [ERL.out] at z2
            rw [ELL.out] at z3
            have hrm : rm ≤ 65535 := RM1.out
            have ew : IntKind.i64.wrap ((rl : Int) + (ll : Int)) = (rl : Int) + (ll : Int) := IntWalk.i64_in _ (by omega)
            have hgt : decide ((rm : Int) < (rl : Int) + (ll : Int)) = false := by simpa using hle
            clear PJ hle heq hrl hrm
            go_quiet ((first
              | (go_at_call 15; exact C1.out _)
              | (go_at_call 19; exact C2.out _)
              | (go_at_call 20; exact C3.out _)
              | (go_at_call 13; exact C4.out _)
              | (go_at_call 21; exact C5.out _)))
            have HW : Hid (TwoJ w (w6.drewN nq) g R T h rm) := ⟨_, _, s2, _, _, _, _, L, HPz.out.below ((show Drawn w6 (w6.drewN nq) from ⟨nq, rfl⟩).below _), HRz.out, HGz.out⟩
            clear z0 z2 z3 ew hgt C1 C2 C3 C4 C5
            generalize w6.drewN nq = wy at *
            go_wp2_with fail
            go_roundw
            case rel => exact ⟨k + 1, by omega, by go_num, HW.out⟩
            case measure => simp [intOf]; omega
        · have hne4 : ¬ dq = 4 := h4
          have y0 : w3.cell? ⟨h, 0, none⟩ = some (.int .u32 s.next) := HP2.out.r.blk.cell 0
          have sn0 := HP2.out.j.at_.inv.n0
          have sn1 := HP2.out.j.at_.inv.n1
          have hcap := HS.out.2.1
          have hcap2 := HS.out.2.2.1
          by_cases hlong : (65536 : Int) < (bs.length : Int)
          · obtain ⟨CS, RP, hmk, hrp, hsl⟩ := make_long
            have HSM := Lib.hid (hsl w3)
            have hba : Below w3.heap.size w3 (w3.alloc (.cells CS 5)) := (Below.refl _ _).alloc (Nat.le_refl _) _
            have HP3 := Lib.hid (HP2.out.below hba)
            have y0m : (w3.alloc (.cells CS 5)).cell? ⟨h, 0, none⟩ = some (.int .u32 s.next) := HP3.out.r.blk.cell 0
            have x2m : (w3.alloc (.cells CS 5)).cell? ⟨G, 2, none⟩ = some (.int .u32 t) := keep_below hba _ _ x2
            have LRP := Lib.hid hrp
            clear hba HP2 hrp hsl
            go_upto_region 19 with fail
            generalize w3.alloc (.cells CS 5) = w3b at *
            clear hmk y0 x2 x3 hcap hcap2 hlong
            go_quiet (fail)
            have HP4 := Lib.hid (HP3.out.below ((show Drawn w3b (w3b.drewN nq) from ⟨nq, rfl⟩).below _))
            have HS4 := Lib.hid (HSM.out.below ((show Drawn w3b (w3b.drewN nq) from ⟨nq, rfl⟩).below _))
            clear y0m x2m HP3 HSM
            generalize w3b.drewN nq = w4 at *
            generalize w3.heap.size = G2 at *
            go_wp2_with fail
            refine (bytes_n (some ⟨G2, 0, none⟩) RP 65537 65537 _ LRP.out HS4.out (by rw [LRP.out]; omega)).mono ?_
            rintro e w5 ⟨X5, x5, rfl, ho5, hb5⟩
            have HP5 := Lib.hid (HP4.out.below hb5)
            clear ho5 hb5 HP4 HS4
            rw [LRP.out]
            go_wp2_with fail
            refine (jadd_long HP5.out.j.at_ _ X5 65537 x5 (by omega)).mono ?_
            rintro e w6 ⟨rfl, rfl⟩
            go_wp2_with fail
            refine (rjadd_long _ (some ⟨G2, 0, none⟩) 65537 65537 _ (by omega)).mono ?_
            rintro e w6 ⟨rfl, rfl⟩
            have HPz := HP5
            have HRz := HREL
            have HGz := HRING
            clear HP5 HREL HRING HX JG LRP
            go_upto_region 24 with fail
            obtain ⟨nx, ENX⟩ : ∃ z, Hid (s.next = z) := ⟨_, rfl⟩
            obtain ⟨rl, ERL⟩ : ∃ z, Hid (s.ready.length = z) := ⟨_, rfl⟩
            obtain ⟨ll, ELL⟩ : ∃ z, Hid (L.length = z) := ⟨_, rfl⟩
            have PJ := HPz.out.j.at_
            have hle := room_le s PJ.inv
            have heq : s.held = (ll : Int) := by rw [← HRz.out.len, ELL.out]
            have hrl : s.ready.length ≤ rm := by have := PJ.inv.few; rw [HGz.out] at this; exact this
            rw [HGz.out, ERL.out, heq] at hle
            have C1 : Hid (∀ n, Calls Try.prog 15 #[.pointer (some ⟨g, 0, none⟩)] (w5.drewN n) fun e w' => e = .returned (.int .u32 nx) ∧ ∃ m, w' = w5.drewN m) := fun n => by
              have := Calls.quiet_of_same ((next_any (PJ.drewN n)).mono fun _ _ h => ⟨h.1, h.2.symm⟩)
              rw [ENX.out] at this
              exact this
            have C2 : Hid (∀ n, Calls Try.prog 19 #[.pointer (some ⟨g, 0, none⟩)] (w5.drewN n) fun e w' => e = .returned (.int .i64 ((rm : Int) - (rl : Int))) ∧ ∃ m, w' = w5.drewN m) := fun n => by
              have := Calls.quiet_of ((window_any (PJ.drewN n)).mono fun _ _ h => h)
              rw [HGz.out, ERL.out] at this
              exact this
            have C3 : Hid (∀ n, Calls Try.prog 20 #[.pointer (some ⟨h, 0, none⟩)] (w5.drewN n) fun e w' => e = .returned (.int .i64 ((rm : Int) - (rl : Int))) ∧ ∃ m, w' = w5.drewN m) := fun n => by
              have := Calls.quiet_of ((rjwindow_any (HPz.out.r.drawn ⟨n, rfl⟩) (by have := RM1.out; omega) (by omega)).mono fun _ _ h => h)
              rw [ERL.out] at this
              exact this
            have C4 : Hid (∀ n, Calls Try.prog 13 #[.pointer (some ⟨g, 0, none⟩)] (w5.drewN n) fun e w' => e = .returned (.int .i64 (rl : Int)) ∧ ∃ m, w' = w5.drewN m) := fun n => by
              have := Calls.quiet_of_same ((ready_any (PJ.drewN n)).mono fun _ _ h => ⟨h.1, h.2.symm⟩)
              rw [ERL.out] at this
              exact this
            have C5 : Hid (∀ n, Calls Try.prog 21 #[.pointer (some ⟨g, 0, none⟩)] (w5.drewN n) fun e w' => e = .returned (.int .i64 (ll : Int)) ∧ ∃ m, w' = w5.drewN m) := fun n => by
              have := Calls.quiet_of_same ((held_any (PJ.drewN n)).mono fun _ _ h => ⟨h.1, h.2.symm⟩)
              rw [heq] at this
              exact this
            have z0 : w5.cell? ⟨h, 0, none⟩ = some (.int .u32 s.next) := HPz.out.r.blk.cell 0
            have z2 : w5.cell? ⟨h, 2, none⟩ = some (.slice A' s.ready.length c') := HPz.out.r.blk.cell 2
            have z3 : w5.cell? ⟨h, 3, none⟩ = some (.slice D L.length dd) := HPz.out.r.blk.cell 3
            rw [ENX.out] at z0
            rw [ERL.out] at z2
            rw [ELL.out] at z3
            have hrm : rm ≤ 65535 := RM1.out
            have ew : IntKind.i64.wrap ((rl : Int) + (ll : Int)) = (rl : Int) + (ll : Int) := IntWalk.i64_in _ (by omega)
            have hgt : decide ((rm : Int) < (rl : Int) + (ll : Int)) = false := by simpa using hle
            clear PJ hle heq hrl hrm
            go_quiet ((first
              | (go_at_call 15; exact C1.out _)
              | (go_at_call 19; exact C2.out _)
              | (go_at_call 20; exact C3.out _)
              | (go_at_call 13; exact C4.out _)
              | (go_at_call 21; exact C5.out _)))
            have HW : Hid (TwoJ w (w5.drewN nq) g R T h rm) := ⟨_, _, s, _, _, _, _, L, HPz.out.below ((show Drawn w5 (w5.drewN nq) from ⟨nq, rfl⟩).below _), HRz.out, HGz.out⟩
            clear z0 z2 z3 ew hgt C1 C2 C3 C4 C5
            generalize w5.drewN nq = wy at *
            go_wp2_with fail
            go_roundw
            case rel => exact ⟨k + 1, by omega, by go_num, HW.out⟩
            case measure => simp [intOf]; omega
          · have hlen := bs.length
            obtain ⟨mq, em, em2, em3, em4⟩ : ∃ m : Nat, m = min bs.length 40 ∧ (if (40 : Int) < (bs.length : Int) then 40 else (bs.length : Int)) = (m : Int) ∧ m ≤ bc ∧ m ≤ bs.length := ⟨_, rfl, by split <;> omega, by omega, by omega⟩
            have EM : Hid ((bs.take 40).length = mq) := by show _ = _; rw [List.length_take, em]; omega
            have HS3 := Lib.hid (HS.out.take 40)
            have HSW3 := Lib.hid (HSW.out.take 40)
            have LOW : Hid (∀ a, Bq = some a → 0 < (bs.take 40).length → a.block < w.heap.size) := fun a ea hp => hlow.out a ea (by rw [List.length_take] at hp; omega)
            have em5 : (mq : Int) ≤ (bc : Int) := by omega
            have MQ : Hid (mq ≤ 40) := by show _ ≤ _; omega
            clear em hlen HS HSW hlow
            go_upto_region 19 with fail
            clear x3 hcap hcap2 hlong em2 em3 em4 em5
            go_quiet (fail)
            have HP4 := Lib.hid (HP2.out.below ((show Drawn w3 (w3.drewN nq) from ⟨nq, rfl⟩).below _))
            have HS4 := Lib.hid (HS3.out.below ((show Drawn w3 (w3.drewN nq) from ⟨nq, rfl⟩).below _))
            clear y0 x1 x2 HP2 HS3 HX
            generalize w3.drewN nq = w4 at *
            have hf0 : 0 ≤ ((s.next + t) % 4294967296) ∧ ((s.next + t) % 4294967296) < 4294967296 := by omega
            generalize ((s.next + t) % 4294967296) = fv at *
            obtain ⟨xs, EXS⟩ : ∃ z, Hid (bs.take 40 = z) := ⟨_, rfl⟩
            rw [EXS.out] at EM HS4 HSW3 LOW
            go_wp2_with fail
            refine (bytes_n Bq xs mq bc _ EM.out HS4.out (by rw [EM.out]; have := MQ.out; omega)).mono ?_
            rintro e w5 ⟨X5, x5, rfl, ho5, hb5⟩
            rw [EM.out]
            have HP5 := Lib.hid (HP4.out.below hb5)
            have HS5 := Lib.hid (HS4.out.below hb5)
            have AP5 : Hid (∀ a, X5 = some a → 0 < xs.length → ¬ JF g R T A a.block) := fun a ea hp hj => by
              obtain ⟨gg, eg, hg1, hg2⟩ := ho5.form hp
              rw [eg] at ea
              injection ea with ea
              subst ea
              have h1 : gg < w4.heap.size := HP4.out.j.at_.jf_lt _ hj
              omega
            have ADD := Lib.hid (add_in HP5.out.j fv hf0.1 hf0.2 X5 xs mq x5 EM.out ho5.bs AP5.out (by rw [EM.out]; have := MQ.out; omega))
            clear ho5 hb5 HP4 HS4 AP5
            go_wp2_with fail
            refine ADD.out.mono ?_
            rintro e w6 ⟨m, A2, c2, rfl, hj6, hf6, hn6, t1, t2⟩
            have HP6 := Lib.hid (HP5.out.joint hj6 hf6 hn6)
            have HB6 : Hid (Bs w6 Bq xs) := HS5.out.1.framed hf6 (fun a ea hp hj => by have := HP5.out.j.big _ hj; have := LOW.out a ea hp; omega)
            obtain ⟨p1, p2, p3, p4, p5, p6, p7, p8⟩ := plays_add HREL.out HP5.out.j.at_.inv fv hf0.1 hf0.2 xs (by rw [EM.out]; have := MQ.out; omega) m t1 t2
            have hfew := HP5.out.j.at_.inv.few
            have hroo := HP5.out.j.at_.inv.room
            have ADR := Lib.hid (rjadd_any HP6.out.r fv Bq xs mq bc (window s) m EM.out sn0 sn1 hf0.1 hf0.2 (by have := RM1.out; omega) (by rw [← HRING.out]; unfold window; omega) (by rw [EM.out]; have := MQ.out; omega) (by have := HREL.out.lenle HP5.out.j.at_.inv; omega) HB6.out (fun a ea hp hj => by have := HP6.out.r.RFB _ hj; have := LOW.out a ea hp; omega) p1 p2 p3 p4)
            have P5 := Lib.hid p5
            have P6 := Lib.hid p6
            have P7 := Lib.hid p7
            have P8 := Lib.hid p8
            clear hj6 hf6 hn6 t1 t2 p1 p2 p3 p4 p5 p6 p7 p8 hfew hroo ADD HP5 HS5 sn0 sn1 hf0
            go_wp2_with fail
            refine ADR.out.mono ?_
            rintro e w7 ⟨A3, c3, D2, d2, rfl, hr7, hf7, hn7, hg7⟩
            have HP7 := Lib.hid (HP6.out.ref hr7 hf7 hg7)
            obtain ⟨L2, EL2⟩ : ∃ z, Hid (rdrop m (raddN s.next fv (window s) L 0 xs) = z) := ⟨_, rfl⟩
            obtain ⟨s2, ES2⟩ : ∃ z, Hid (runS m (addS s fv xs) = z) := ⟨_, rfl⟩
            have HPz : Hid (Pair w w7 g R T h A2 c2 s2 A3 c3 s2.next rm s2.ready D2 d2 L2) := by
              have := HP7.out
              rw [← P6.out, ← P7.out, ES2.out, EL2.out] at this
              exact this
            have HRz : Hid (Rel s2 L2) := by have := P5.out; rw [ES2.out, EL2.out] at this; exact this
            have HGz : Hid (s2.ring.length = rm) := by have := P8.out; rw [ES2.out, HRING.out] at this; exact this
            clear hr7 hf7 hn7 hg7 HP7 HP6 P5 P6 P7 P8 ADR HREL HRING ES2 EL2 HB6 JG EM EXS LOW HSW3
            go_upto_region 24 with fail
            obtain ⟨nx, ENX⟩ : ∃ z, Hid (s2.next = z) := ⟨_, rfl⟩
            obtain ⟨rl, ERL⟩ : ∃ z, Hid (s2.ready.length = z) := ⟨_, rfl⟩
            obtain ⟨ll, ELL⟩ : ∃ z, Hid (L2.length = z) := ⟨_, rfl⟩
            have PJ := HPz.out.j.at_
            have hle := room_le s2 PJ.inv
            have heq : s2.held = (ll : Int) := by rw [← HRz.out.len, ELL.out]
            have hrl : s2.ready.length ≤ rm := by have := PJ.inv.few; rw [HGz.out] at this; exact this
            rw [HGz.out, ERL.out, heq] at hle
            have C1 : Hid (∀ n, Calls Try.prog 15 #[.pointer (some ⟨g, 0, none⟩)] (w7.drewN n) fun e w' => e = .returned (.int .u32 nx) ∧ ∃ m, w' = w7.drewN m) := fun n => by
              have := Calls.quiet_of_same ((next_any (PJ.drewN n)).mono fun _ _ h => ⟨h.1, h.2.symm⟩)
              rw [ENX.out] at this
              exact this
            have C2 : Hid (∀ n, Calls Try.prog 19 #[.pointer (some ⟨g, 0, none⟩)] (w7.drewN n) fun e w' => e = .returned (.int .i64 ((rm : Int) - (rl : Int))) ∧ ∃ m, w' = w7.drewN m) := fun n => by
              have := Calls.quiet_of ((window_any (PJ.drewN n)).mono fun _ _ h => h)
              rw [HGz.out, ERL.out] at this
              exact this
            have C3 : Hid (∀ n, Calls Try.prog 20 #[.pointer (some ⟨h, 0, none⟩)] (w7.drewN n) fun e w' => e = .returned (.int .i64 ((rm : Int) - (rl : Int))) ∧ ∃ m, w' = w7.drewN m) := fun n => by
              have := Calls.quiet_of ((rjwindow_any (HPz.out.r.drawn ⟨n, rfl⟩) (by have := RM1.out; omega) (by omega)).mono fun _ _ h => h)
              rw [ERL.out] at this
              exact this
            have C4 : Hid (∀ n, Calls Try.prog 13 #[.pointer (some ⟨g, 0, none⟩)] (w7.drewN n) fun e w' => e = .returned (.int .i64 (rl : Int)) ∧ ∃ m, w' = w7.drewN m) := fun n => by
              have := Calls.quiet_of_same ((ready_any (PJ.drewN n)).mono fun _ _ h => ⟨h.1, h.2.symm⟩)
              rw [ERL.out] at this
              exact this
            have C5 : Hid (∀ n, Calls Try.prog 21 #[.pointer (some ⟨g, 0, none⟩)] (w7.drewN n) fun e w' => e = .returned (.int .i64 (ll : Int)) ∧ ∃ m, w' = w7.drewN m) := fun n => by
              have := Calls.quiet_of_same ((held_any (PJ.drewN n)).mono fun _ _ h => ⟨h.1, h.2.symm⟩)
              rw [heq] at this
              exact this
            have z0 : w7.cell? ⟨h, 0, none⟩ = some (.int .u32 s2.next) := HPz.out.r.blk.cell 0
            have z2 : w7.cell? ⟨h, 2, none⟩ = some (.slice A3 s2.ready.length c3) := HPz.out.r.blk.cell 2
            have z3 : w7.cell? ⟨h, 3, none⟩ = some (.slice D2 L2.length d2) := HPz.out.r.blk.cell 3
            rw [ENX.out] at z0
            rw [ERL.out] at z2
            rw [ELL.out] at z3
            have hrm : rm ≤ 65535 := RM1.out
            have ew : IntKind.i64.wrap ((rl : Int) + (ll : Int)) = (rl : Int) + (ll : Int) := IntWalk.i64_in _ (by omega)
            have hgt : decide ((rm : Int) < (rl : Int) + (ll : Int)) = false := by simpa using hle
            clear PJ hle heq hrl hrm
            go_quiet ((first
              | (go_at_call 15; exact C1.out _)
              | (go_at_call 19; exact C2.out _)
              | (go_at_call 20; exact C3.out _)
              | (go_at_call 13; exact C4.out _)
              | (go_at_call 21; exact C5.out _)))
            have HW : Hid (TwoJ w (w7.drewN nq) g R T h rm) := ⟨_, _, s2, _, _, _, _, L2, HPz.out.below ((show Drawn w7 (w7.drewN nq) from ⟨nq, rfl⟩).below _), HRz.out, HGz.out⟩
            clear z0 z2 z3 ew hgt C1 C2 C3 C4 C5
            generalize w7.drewN nq = wy at *
            go_wp2_with fail
            go_roundw
            case rel => exact ⟨k + 1, by omega, by go_num, HW.out⟩
            case measure => simp [intOf]; omega
      · have BB : Hid (Below w.heap.size w wr) := by obtain ⟨⟨A, c, s, A', c', D, dd, L, P, REL, RING⟩⟩ := hp; exact P.j.bel
        clear hp
        by_cases q : (k : Int) < len
        · have q' : ¬ (k : Int) < 40 := by omega
          clear hkl
          go_wp2_with fail
          refine (works_any _).mono ?_
          rintro e w13 ⟨rfl, hb2⟩
          have FIN : Hid (Below w.heap.size w w13) := BB.out.trans (hb2.mono BB.out.size)
          clear hb2
          go_wp2_with fail
          go_ret
          exact ⟨rfl, FIN.out⟩
        · clear hkl
          go_wp2_with fail
          refine (works_any _).mono ?_
          rintro e w13 ⟨rfl, hb2⟩
          have FIN : Hid (Below w.heap.size w w13) := BB.out.trans (hb2.mono BB.out.size)
          clear hb2
          go_wp2_with fail
          go_ret
          exact ⟨rfl, FIN.out⟩
  · have hr2 : room < 1 ∨ 65535 < room := by omega
    have JN := Lib.hid (fun w => jnew_bad next room w hr2)
    have RN := Lib.hid (fun w => rjnew_bad next room w hr2)
    clear hr2 hroom
    go_enter Try.func4, Try.ntmps4
    go_wp2_with fail
    refine (JN.out _).mono ?_
    rintro e w1 ⟨rfl, rfl⟩
    go_wp2_with fail
    refine (RN.out _).mono ?_
    rintro e w1 ⟨rfl, rfl⟩
    go_wp2_with fail
    refine (works_any _).mono ?_
    rintro e w13 ⟨rfl, hb2⟩
    have FIN := Lib.hid hb2
    clear hb2
    go_wp2_with fail
    go_ret
    exact ⟨rfl, FIN.out⟩
end Go.Proofs.Ytfijbbhoemdhbaa
