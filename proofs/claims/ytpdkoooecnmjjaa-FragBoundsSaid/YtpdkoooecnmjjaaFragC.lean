/-
  A table of wholes in memory; the walks of New, is, may, Len.
-/
import Derived.Test.YtpdkoooecnmjjaaFragB
namespace Go.Proofs.Ytpdkoooecnmjjaa
open Go.RowKit
set_option linter.unusedVariables false

/-- A whole: what it has, and where. -/
structure WX where
  g : Nat
  kf : Int
  kt : Int
  kk : Int
  ki : Int
  began : Int
  pieces : Int
  fin : Int
  head : Option Nat
  dA : Option Addr
  dc : Nat
  data : List UInt8
  hA : Option Addr
  hc : Nat
  has : List Bool
  many : Int
def hdV : Option Nat → Value
  | none => .pointer none
  | some h => PV h
abbrev wholeV (x : WX) : Array Value :=
  #[.int .u32 x.kf, .int .u32 x.kt, .int .i64 x.kk, .int .i64 x.ki, .int .i64 x.began, .int .i64 x.pieces, .int .i64 x.fin, hdV x.head, .slice x.dA x.data.length x.dc, .slice x.hA x.has.length x.hc, .int .i64 x.many]
def HeadAt (w : World) (B h : Nat) : Prop := B ≤ h ∧ ∃ (a b c d : Int) (e f : Bool) (g i : Int) (D : Option Addr) (n q : Nat), Blk w h 33 #[.int .i64 a, .int .i64 b, .int .i64 c, .int .i64 d, .bool e, .bool f, .int .u32 g, .int .u32 i, .slice D n q]
structure WAt (w : World) (B : Nat) (x : WX) : Prop where
  blk : Blk w x.g 60 (wholeV x)
  data : Own w B x.dA x.dc x.data
  has : OwnB w B x.hA x.hc x.has
  base : B ≤ x.g
  head : ∀ h, x.head = some h → HeadAt w B h
/-- What is always so of a whole. -/
structure Winv (x : WX) : Prop where
  len : x.has.length = x.data.length
  many : x.many = (x.has.count true : Nat)
  p0 : 0 ≤ x.pieces
  p1 : x.pieces ≤ 64
  fin : x.fin = -1 ∨ (8 ≤ x.fin ∧ (x.data.length : Int) ≤ x.fin)
  head : x.has.getD 0 false = true → x.head ≠ none
  big : x.data.length ≤ 65515
def dblk (x : WX) : Option Nat := (Value.slice x.dA x.data.length x.dc).ownBlock
def hblk (x : WX) : Option Nat := (Value.slice x.hA x.has.length x.hc).ownBlock
/-- No two wholes have a block in common. -/
def Apart (x y : WX) : Prop := x.g ≠ y.g ∧ (∀ k, dblk x = some k → dblk y ≠ some k) ∧ (∀ k, hblk x = some k → hblk y ≠ some k)
theorem Apart.symm {x y : WX} (h : Apart x y) : Apart y x := ⟨fun e => h.1 e.symm, fun k h1 h2 => h.2.1 k h2 h1, fun k h1 h2 => h.2.2 k h2 h1⟩
structure TAt (w : World) (B tb : Nat) (wait now : Int) (A : Option Addr) (c : Nat) (L : List WX) : Prop where
  blk : Blk w tb 45 #[.int .i64 wait, .int .i64 now, .slice A L.length c, .bool true]
  row : OwnP w B A c (L.map WX.g)
  each : ∀ x ∈ L, WAt w B x
  inv : ∀ x ∈ L, Winv x
  apart : L.Pairwise Apart
  base : B ≤ tb
  n0 : 0 ≤ now
  bg : ∀ x ∈ L, 0 ≤ x.began ∧ x.began ≤ now
  w0 : 1 ≤ wait
  w1 : wait ≤ 1000000
/-- The blocks of a whole. -/
def WF (x : WX) : Nat → Prop := fun k => k = x.g ∨ dblk x = some k ∨ hblk x = some k
/-- .. of a table and its row. -/
def TF (tb : Nat) (A : Option Addr) (n c : Nat) : Nat → Prop := fun k => k = tb ∨ (Value.slice A n c).ownBlock = some k
section
variable {w w' : World} {B tb c : Nat} {wait now : Int} {A : Option Addr} {L : List WX} {x : WX} {F : Nat → Prop}
theorem HeadAt.framed {h : Nat} (o : HeadAt w B h) (hf : Frame F w w') (hn : ¬ F h) : HeadAt w' B h := by
  obtain ⟨h1, a, b, c, d, e, f, g, i, D, n, q, h2⟩ := o
  exact ⟨h1, a, b, c, d, e, f, g, i, D, n, q, h2.framed hf hn⟩
theorem WAt.framed (o : WAt w B x) (hf : Frame F w w') (h1 : ∀ k, WF x k → ¬ F k) (h2 : ∀ h, x.head = some h → ¬ F h) : WAt w' B x :=
  ⟨o.blk.framed hf (h1 _ (.inl rfl)), owns_framed o.data hf (fun k hk => h1 k (.inr (.inl hk))), owns_framed o.has hf (fun k hk => h1 k (.inr (.inr hk))), o.base, fun h hh => (o.head h hh).framed hf (h2 h hh)⟩
theorem WAt.below (o : WAt w B x) (hb : Below w.heap.size w w') : WAt w' B x := o.framed (Frame.of_below (F := fun _ => False) hb) (fun _ _ h => h) (fun _ _ h => h)
theorem TAt.below (t : TAt w B tb wait now A c L) (hb : Below w.heap.size w w') : TAt w' B tb wait now A c L :=
  ⟨t.blk.framed (Frame.of_below (F := fun _ => False) hb) (fun h => h), t.row.keep hb, fun x hx => (t.each x hx).below hb, t.inv, t.apart, t.base, t.n0, t.bg, t.w0, t.w1⟩
theorem TAt.lt (t : TAt w B tb wait now A c L) : tb < w.heap.size := t.blk.lt
/-- A block of another type is none of a whole's, nor a head. -/
theorem WAt.not_typed {k : Nat} {t : TypeId} {cs : Array Value} {fr : Nat × Nat} (o : WAt w B x) (hk : w.heap[k]? = some (.cells cs t fr)) (h1 : t ≠ 60) (h2 : t ≠ 5) (h3 : t ≠ 4) (h4 : t ≠ 33) : ¬ WF x k ∧ ∀ h, x.head = some h → h ≠ k := by
  refine ⟨?_, fun h hh e => ?_⟩
  · rintro (rfl | h | h)
    · have hb := o.blk
      unfold Blk at hb
      rw [hb] at hk
      injection hk with hk
      injection hk with _ hk
      exact h1 hk.symm
    · exact owns_ne o.data hk (fun e => h2 e.symm) h
    · exact owns_ne o.has hk (fun e => h3 e.symm) h
  · subst e
    obtain ⟨_, a, b, c, d, e, f, g, i, D, n, q, hb⟩ := o.head h hh
    unfold Blk at hb
    rw [hb] at hk
    injection hk with hk
    injection hk with _ hk
    exact h4 hk.symm
theorem TAt.row_typed (t : TAt w B tb wait now A c L) : ∀ k, TF tb A L.length c k → ∃ cs tt fr, w.heap[k]? = some (.cells cs tt fr) ∧ tt ≠ 60 ∧ tt ≠ 5 ∧ tt ≠ 4 ∧ tt ≠ 33 := by
  rintro k (rfl | hk)
  · exact ⟨_, _, _, t.blk, by decide, by decide, by decide, by decide⟩
  · have hr := t.row
    unfold OwnP at hr
    rw [List.length_map] at hr
    obtain ⟨cs, h⟩ := owns_typed hr hk
    exact ⟨_, _, _, h, by decide, by decide, by decide, by decide⟩
theorem TAt.whole_free (t : TAt w B tb wait now A c L) (hx : x ∈ L) : (∀ k, WF x k → ¬ TF tb A L.length c k) ∧ (∀ h, x.head = some h → ¬ TF tb A L.length c h) := by
  refine ⟨fun k h1 h2 => ?_, fun h h1 h2 => ?_⟩
  · obtain ⟨cs, tt, fr, q0, q1, q2, q3, q4⟩ := t.row_typed k h2
    exact ((t.each x hx).not_typed q0 q1 q2 q3 q4).1 h1
  · obtain ⟨cs, tt, fr, q0, q1, q2, q3, q4⟩ := t.row_typed h h2
    exact ((t.each x hx).not_typed q0 q1 q2 q3 q4).2 h h1 rfl
theorem TAt.TFB (t : TAt w B tb wait now A c L) : ∀ k, TF tb A L.length c k → B ≤ k := by
  rintro k (rfl | hk)
  · exact t.base
  · have hr := t.row
    unfold OwnP at hr
    rw [List.length_map] at hr
    exact (World.ownsRow.lt hr k hk).1

theorem fnew_any (wait : Int) (w : World) (h0 : 1 ≤ wait) (h1 : wait ≤ 1000000) :
    Calls Try.prog 7 #[.int .i64 wait] w fun e w' => e = .returned (.tuple #[.pointer (some ⟨w.heap.size, 0, none⟩), .int .i64 0]) ∧ TAt w' w.heap.size w.heap.size wait 0 none 0 [] ∧ Below w.heap.size w w' := by
  have hm : TAt (w.alloc (.cells #[.int .i64 wait, .int .i64 0, .slice none 0 0, .bool true] 45)) w.heap.size w.heap.size wait 0 none 0 [] :=
    ⟨blk_new w _ _, World.ownsRow_nil _ _ _ _, (fun x hx => by cases hx), (fun x hx => by cases hx), List.Pairwise.nil, Nat.le_refl _, Int.le_refl _, (fun x hx => by cases hx), h0, h1⟩
  have HM := Lib.hid hm
  clear hm
  go_enter Try.func7, Try.ntmps7
  go_wp2
  go_ret2
  exact ⟨rfl, HM.out, (Below.refl _ _).alloc (Nat.le_refl _) _⟩
theorem is_yes (w : World) (h3 : w.cell? ⟨tb, 3, none⟩ = some (.bool true)) :
    Calls Try.prog 22 #[.pointer (some ⟨tb, 0, none⟩)] w fun e w' => e = .returned (.bool true) ∧ w = w' := by
  go_enter Try.func22, Try.ntmps22
  go_wp2
  go_ret
  exact ⟨rfl, rfl⟩
theorem is_no (w : World) (h3 : w.cell? ⟨tb, 3, none⟩ = some (.bool false)) :
    Calls Try.prog 22 #[.pointer (some ⟨tb, 0, none⟩)] w fun e w' => e = .returned (.bool false) ∧ w = w' := by
  go_enter Try.func22, Try.ntmps22
  go_wp2
  go_ret
  exact ⟨rfl, rfl⟩
theorem is_nil (w : World) :
    Calls Try.prog 22 #[.pointer none] w fun e w' => e = .returned (.bool false) ∧ w = w' := by
  go_enter Try.func22, Try.ntmps22
  go_wp2
  go_ret
  exact ⟨rfl, rfl⟩
def mayE (old now : Int) : Int := if now < old ∨ 1099511627776 < now then 2 else 0
theorem may_any (t : TAt w B tb wait now A c L) (n : Int) :
    Calls Try.prog 12 #[.pointer (some ⟨tb, 0, none⟩), .int .i64 n] w fun e w' => e = .returned (.int .i64 (mayE now n)) ∧ w = w' := by
  have c3 : w.cell? ⟨tb, 3, none⟩ = some (.bool true) := t.blk.cell 3
  have c1 : w.cell? ⟨tb, 1, none⟩ = some (.int .i64 now) := t.blk.cell 1
  by_cases h1 : n < now
  · have E : Hid (mayE now n = 2) := by show _ = _; rw [mayE, if_pos (.inl h1)]
    go_enter Try.func12, Try.ntmps12
    go_wp2_with fail
    refine (is_yes w c3).mono ?_
    rintro e w' ⟨rfl, rfl⟩
    go_wp2_with fail
    go_ret
    exact ⟨by rw [E.out]; rfl, rfl⟩
  · by_cases h2 : 1099511627776 < n
    · have E : Hid (mayE now n = 2) := by show _ = _; rw [mayE, if_pos (.inr h2)]
      go_enter Try.func12, Try.ntmps12
      go_wp2_with fail
      refine (is_yes w c3).mono ?_
      rintro e w' ⟨rfl, rfl⟩
      go_wp2_with fail
      go_ret
      exact ⟨by rw [E.out]; rfl, rfl⟩
    · have E : Hid (mayE now n = 0) := by show _ = _; rw [mayE, if_neg (fun h => by rcases h with h | h <;> omega)]
      go_enter Try.func12, Try.ntmps12
      go_wp2_with fail
      refine (is_yes w c3).mono ?_
      rintro e w' ⟨rfl, rfl⟩
      go_wp2_with fail
      go_ret
      exact ⟨by rw [E.out]; rfl, rfl⟩
theorem len_any (t : TAt w B tb wait now A c L) :
    Calls Try.prog 10 #[.pointer (some ⟨tb, 0, none⟩)] w fun e w' => e = .returned (.int .i64 L.length) ∧ w = w' := by
  have c3 : w.cell? ⟨tb, 3, none⟩ = some (.bool true) := t.blk.cell 3
  have c2 : w.cell? ⟨tb, 2, none⟩ = some (.slice A L.length c) := t.blk.cell 2
  go_enter Try.func10, Try.ntmps10
  go_wp2_with fail
  refine (is_yes w c3).mono ?_
  rintro e w' ⟨rfl, rfl⟩
  go_wp2_with fail
  go_ret
  exact ⟨rfl, rfl⟩
end
end Go.Proofs.Ytpdkoooecnmjjaa
