/-
  The walk of join.Add.
-/
import Derived.Test.YtfijbbhoemdhbaaJoin3
import Derived.Test.YtfijbbhoemdhbaaTrim
namespace Go.Proofs.Ytfijbbhoemdhbaa
open Go.RowKit

/-- Bytes held one behind the other. -/
def holdN : JS → Nat → List UInt8 → JS
  | s, _, [] => s
  | s, o, x :: r => holdN (holdS s o x) (o + 1) r
theorem holdN_snoc : ∀ (l : List UInt8) (s : JS) (o : Nat) (x : UInt8), holdN s o (l ++ [x]) = holdS (holdN s o l) (o + l.length) x
  | [], s, o, x => rfl
  | y :: r, s, o, x => by
    show holdN (holdS s o y) (o + 1) (r ++ [x]) = holdS (holdN (holdS s o y) (o + 1) r) (o + (y :: r).length) x
    rw [holdN_snoc r]
    congr 1
    simp; omega
theorem holdN_window : ∀ (l : List UInt8) (s : JS) (o : Nat), window (holdN s o l) = window s
  | [], _, _ => rfl
  | x :: r, s, o => by
    show window (holdN (holdS s o x) (o + 1) r) = _
    rw [holdN_window r]
    unfold window
    rw [(hold_ring s o x).1, (hold_ring s o x).2.2.1]

/-- How far behind next what is left of a span begins. -/
def behind (s : JS) (f : Int) (n : Nat) : Nat := (way s.next (addw f (trimCut s.next (window s) f n))).toNat
def cutN (s : JS) (f : Int) (n : Nat) : Nat := (trimCut s.next (window s) f n).toNat
def leftN (s : JS) (f : Int) (n : Nat) : Nat := (trimLeft s.next (window s) f n).toNat
def addS (s : JS) (f : Int) (bs : List UInt8) : JS := holdN s (behind s f bs.length) ((bs.drop (cutN s f bs.length)).take (leftN s f bs.length))

theorem trim_fit (next f : Int) (size n : Nat) (h1 : size ≤ 65535) (h2 : n ≤ 65536) (e0 : 0 ≤ next) (e1 : next < 4294967296) (_f0 : 0 ≤ f) (_f1 : f < 4294967296) :
    errOf size n = 0 ∧ 0 ≤ trimCut next size f n ∧ 0 ≤ trimLeft next size f n ∧ trimCut next size f n + trimLeft next size f n ≤ n ∧
    (0 < trimLeft next size f n → way next (addw f (trimCut next size f n)) + trimLeft next size f n ≤ size) := by
  have hm : may size n = true := by unfold may; simp; omega
  have ht : trimCut next size f n = cutAt next size f n size := by simp [trimCut, hm]
  have hl : trimLeft next size f n = leftAt next size f n size := by simp [trimLeft, hm]
  have hc : cutAt next size f n size = if way next f < size then 0 else if way f next < n ∧ 1 ≤ (size : Int) then way f next else 0 := rfl
  have hll : leftAt next size f n size = if way next f < size then min (n : Int) (max 0 ((size : Int) - way next f)) else min (max 0 ((n : Int) - way f next)) size := rfl
  have b1 := way_bd next f
  have b2 := way_bd f next
  refine ⟨by simp [errOf, hm], ?_⟩
  rw [ht, hl]
  by_cases h3 : way next f < size
  · rw [if_pos h3] at hc hll
    refine ⟨by omega, by omega, by omega, fun _ => ?_⟩
    rw [hc]
    have q1 : way next (addw f 0) = way next f := by unfold way addw; omega
    rw [q1]
    omega
  · rw [if_neg h3] at hc hll
    by_cases h4 : way f next < n ∧ 1 ≤ (size : Int)
    · rw [if_pos h4] at hc
      refine ⟨by omega, by omega, by omega, fun _ => ?_⟩
      rw [hc]
      have q1 : addw f (way f next) = next := by unfold way addw; omega
      have q2 : way next next = 0 := by unfold way; omega
      rw [q1, q2]
      omega
    · rw [if_neg h4] at hc
      refine ⟨by omega, by omega, by omega, fun _ => by omega⟩

def AddJ (g R T : Nat) (A : Option Addr) (s : JS) (w : World) (e : Ending) (w' : World) : Prop :=
  ∃ k : Nat, e = .returned (.tuple #[.int .i64 k, .int .i64 0]) ∧ MoveAt g R T A w s k w' ∧ (runS k s).has.getD (runS k s).first false = false

section
variable {w : World} {g R T : Nat} {A : Option Addr} {c : Nat} {s : JS}

theorem jadd_long (h : JAt w g R T A c s) (f : Int) (B : Option Addr) (n d : Nat) (hn : 65536 < n) :
    Calls Try.prog 10 #[.pointer (some ⟨g, 0, none⟩), .int .u32 f, .slice B n d] w fun e w' => e = .returned (.tuple #[.int .i64 0, .int .i64 3]) ∧ w = w' := by
  have c2 := h.c2
  have hn' : (65536 : Int) < (n : Int) := by omega
  have HN := Lib.hid hn
  clear hn
  go_enter Try.func10, Try.ntmps10
  go_wp2_with fail
  refine (is_yes g R _ _ c2).mono ?_
  rintro e w' ⟨rfl, rfl⟩
  go_wp2_with fail
  go_ret2
  exact ⟨rfl, rfl⟩

set_option maxHeartbeats 1000000 in
set_option maxRecDepth 100000 in
theorem jadd_any (h : JAt w g R T A c s) (f : Int) (f0 : 0 ≤ f) (f1 : f < 4294967296) (B : Option Addr) (bs : List UInt8) (d : Nat) (hB : Bs w B bs) (hap : ∀ a, B = some a → 0 < bs.length → ¬ JF g R T A a.block) (hl : bs.length ≤ 65536) :
    Calls Try.prog 10 #[.pointer (some ⟨g, 0, none⟩), .int .u32 f, .slice B bs.length d] w (AddJ g R T A (addS s f bs) w) := by
  have c0 := h.c0
  have c2 := h.c2
  have hw1 : s.ready.length ≤ s.ring.length := h.inv.few
  have hw2 : s.ring.length ≤ 65535 := h.inv.room
  have TF := Lib.hid (trim_fit s.next f (window s) bs.length (by unfold window; omega) hl h.inv.n0 h.inv.n1 f0 f1)
  have EW := Lib.hid (show ((s.ring.length : Int) - s.ready.length) = ((window s : Nat) : Int) by unfold window; omega)
  have hl' : (bs.length : Int) ≤ 65536 := by omega
  have HL := Lib.hid hl
  clear hl
  go_enter Try.func10, Try.ntmps10
  go_wp2_with fail
  refine (is_yes g R _ _ c2).mono ?_
  rintro e w' ⟨rfl, rfl⟩
  go_wp2_with fail
  have hWin := fun n => Lib.hid (window_any (h.drewN n))
  go_quiet ((first | (go_at_call 19; exact Calls.quiet_of ((hWin _).out.mono fun _ _ hh => ⟨hh.1, hh.2⟩)) | (go_at_call 23; exact Calls.quiet_of_same ((trim_any _ _ _ _ _).mono fun _ _ hh => ⟨hh.1, hh.2.symm⟩))))
  rw [EW.out]
  obtain ⟨q1, q2, q3, q4, q5⟩ := TF.out
  rw [q1]
  clear q1 TF hWin
  have AS := Lib.hid (show addS s f bs = holdN s (way s.next (addw f (trimCut s.next (window s) f bs.length))).toNat ((bs.drop (trimCut s.next (window s) f bs.length).toNat).take (trimLeft s.next (window s) f bs.length).toNat) from rfl)
  generalize trimCut s.next (window s) f bs.length = C at *
  generalize trimLeft s.next (window s) f bs.length = L at *
  obtain ⟨C, rfl⟩ := Int.eq_ofNat_of_zero_le q2
  obtain ⟨L, rfl⟩ := Int.eq_ofNat_of_zero_le q3
  rw [Int.toNat_natCast, Int.toNat_natCast] at AS
  have Q5 := Lib.hid q5
  clear q5 q2 q3
  go_wp2_with fail
  have c0' : (w.drewN nq).cell? ⟨g, 0, none⟩ = some (.int .u32 s.next) := c0
  have h' := h.drewN nq
  have hF' := (Frame.refl (JF g R T A) w).drewN nq
  generalize w.drewN nq = w1 at *
  have b1 := way_bd s.next (addw f C)
  have b2 := addw_bd f C
  go_quiet ((first | (go_at_call 25; exact Calls.quiet_of_same ((sadd_any _ _ _ f0 f1).mono fun _ _ hh => ⟨hh.1, hh.2.symm⟩)) | (go_at_call 24; exact Calls.quiet_of_same ((way_any _ _ _).mono fun _ _ hh => ⟨hh.1, hh.2.symm⟩))))
  replace h' := h'.drewN nq
  replace hF' := hF'.drewN nq
  generalize w1.drewN nq = w2 at *
  clear c0' b2
  generalize way s.next (addw f C) = o at *
  obtain ⟨o, rfl⟩ := Int.eq_ofNat_of_zero_le b1.1
  rw [Int.toNat_natCast] at AS
  have Q6 : Hid (0 < L → o + L ≤ window s) := by show 0 < L → o + L ≤ window s; intro hL; have := Q5.out (by omega); omega
  have B1 := Lib.hid b1
  clear b1 Q5
  have LS : Hid (((bs.drop C).take L).length = L) := by show ((bs.drop C).take L).length = L; rw [List.length_take, List.length_drop]; omega
  go_wp2_with fail
  go_loopw [48] (fun i wr => ∃ k : Nat, k ≤ L ∧ i = .int .i64 k ∧ JAt wr g R T A c (holdN s o (((bs.drop C).take L).take k)) ∧ Frame (JF g R T A) w wr) (fun i _ => L - (intOf i).toNat)
  case atStart => exact ⟨0, Nat.zero_le _, rfl, h', hF'⟩
  case round =>
    obtain ⟨k, hk, rfl, hj, hF⟩ := hrel
    by_cases hkl : k < L
    · have hwin := Q6.out (by omega)
      obtain ⟨b, off, rfl, hc⟩ := hB.at_ (by omega)
      have hc1 := hc (C + k) (by omega)
      have hlt := World.block_lt_of_cell? w _ hc1
      have hc2 : wr.cell? ⟨b, off + (C + k), none⟩ = some (.int .u8 ((bs.getD (C + k) 0).toNat : Int)) := by
        rw [World.cell?_of_block (w := w) (hF.block b hlt (hap _ rfl (by omega)))]
        exact hc1
      have EX : Hid (((bs.drop C).take L).take (k + 1) = ((bs.drop C).take L).take k ++ [bs.getD (C + k) 0]) := by
        show _ = _
        rw [List.take_succ_eq_append_getElem (by rw [LS.out]; exact hkl)]
        congr 1
        rw [List.getElem_take, List.getElem_drop]
        simp [List.getD_eq_getElem?_getD, List.getElem?_eq_getElem (show C + k < bs.length by omega)]
      have EL : Hid ((((bs.drop C).take L).take k).length = k) := by show (((bs.drop C).take L).take k).length = k; rw [List.length_take, LS.out]; omega
      have HW := Lib.hid (holdN_window (((bs.drop C).take L).take k) s o)
      have HSN := Lib.hid (holdN_snoc (((bs.drop C).take L).take k) s o (bs.getD (C + k) 0))
      clear hc hc1 hwin
      generalize bs.getD (C + k) 0 = x at *
      have hx := x.toNat_lt
      have i1 : ((C : Int) + k) < (bs.length : Int) := by omega
      have ob : o ≤ 70000 := by have := Q6.out (by omega); have : window s ≤ s.ring.length := by unfold window; omega
                                omega
      go_wp2_with fail
      have e1 : ((o : Int) + k) = ((o + k : Nat) : Int) := by omega
      rw [e1]
      refine (hold_any hj (o + k) (by rw [HW.out]; have := Q6.out (by omega); omega) x).mono ?_
      rintro e w3 ⟨rfl, hj3, hF3⟩
      have hF4 := hF.trans hF3 (fun i hi => .inl hi)
      clear e1
      go_wp2_with fail
      go_roundw
      case rel => exact ⟨k + 1, by omega, by go_num, by rw [EX.out, HSN.out, EL.out]; exact hj3, hF4⟩
      case measure => simp [intOf]; omega
    · have ek : k = L := by omega
      subst ek
      rw [List.take_of_length_le (Nat.le_of_eq LS.out), ← AS.out] at hj
      go_wp2_with fail
      refine (move_any hj).mono ?_
      rintro e w3 ⟨m, rfl, ⟨A', c', hj3, hF3, hn3, ht3⟩, hend⟩
      have FIN : Hid (AddJ g R T A (addS s f bs) w (.returned (.tuple #[.int .i64 m, .int .i64 0])) w3) :=
        ⟨m, rfl, ⟨A', c', hj3, hF.trans hF3 (fun i hi => .inl hi), fun i hi => by
          rcases hn3 i hi with h1 | h1
          · exact .inl h1
          · exact .inr (Nat.le_trans hF.size h1), ht3⟩, hend⟩
      clear hj3 hF3 hn3 ht3 hend
      go_wp2_with fail
      go_ret2
      exact FIN.out
end
end Go.Proofs.Ytfijbbhoemdhbaa
