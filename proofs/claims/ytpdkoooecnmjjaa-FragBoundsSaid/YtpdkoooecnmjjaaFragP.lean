/-
  What is always so of a whole stays so when a piece is put.
-/
import Derived.Test.YtpdkoooecnmjjaaFragO
namespace Go.Proofs.Ytpdkoooecnmjjaa
open Go.RowKit
set_option linter.unusedVariables false

theorem grownL_len {α : Type} (z : α) (n : Nat) (xs : List α) : (grownL z n xs).length = xs.length + (n - xs.length) := by simp [grownL]
theorem grownL_count (n : Nat) (xs : List Bool) : (grownL false n xs).count true = xs.count true := by
  unfold grownL
  rw [List.count_append, List.count_replicate]
  simp
theorem grownL_zero (n : Nat) (xs : List Bool) : (grownL false n xs).getD 0 false = xs.getD 0 false := by
  unfold grownL
  cases xs with
  | nil =>
    rw [List.nil_append]
    cases h : n - ([] : List Bool).length <;> simp [List.replicate]
  | cons a l => simp
theorem putL_len : ∀ (d : List UInt8) (k : Nat) (s : List UInt8 × List Bool × Int), (putL k d s).1.length = s.1.length ∧ (putL k d s).2.1.length = s.2.1.length
  | [], k, s => ⟨rfl, rfl⟩
  | b :: d, k, s => by
    rw [putL]
    have ih := putL_len d (k + 1) (if s.2.1.getD k false then s else (s.1.set k b, s.2.1.set k true, s.2.2 + 1))
    rw [ih.1, ih.2]
    split <;> simp
theorem putL_count : ∀ (d : List UInt8) (k : Nat) (s : List UInt8 × List Bool × Int), k + d.length ≤ s.2.1.length → s.2.2 = (s.2.1.count true : Nat) → (putL k d s).2.2 = ((putL k d s).2.1.count true : Nat)
  | [], k, s, _, h => h
  | b :: d, k, s, hl, h => by
    rw [putL]
    rw [List.length_cons] at hl
    apply putL_count d
    · split
      · omega
      · simp only [List.length_set]; omega
    · split
      · exact h
      · rename_i hk
        have hlt : k < s.2.1.length := by omega
        have e : s.2.1[k] = false := by
          rw [List.getD_eq_getElem?_getD, List.getElem?_eq_getElem hlt] at hk
          simpa using hk
        simp only [List.count_set hlt, e, h]
        simp
theorem putL_zero : ∀ (d : List UInt8) (k : Nat) (s : List UInt8 × List Bool × Int), 0 < k → (putL k d s).2.1.getD 0 false = s.2.1.getD 0 false
  | [], k, s, _ => rfl
  | b :: d, k, s, hk => by
    rw [putL, putL_zero d (k + 1) _ (by omega)]
    split
    · rfl
    · rw [List.getD_eq_getElem?_getD, List.getD_eq_getElem?_getD, List.getElem?_set_ne (by omega)]

/-- A packet: its numbers and bytes. -/
structure Pk where
  id : Int
  at_ : Int
  life : Int
  kind : Int
  wh : Bool
  mo : Bool
  f : Int
  t : Int
  d : List UInt8
def midE (p : Pk) : Int := if p.mo = true ∧ (p.d.length = 0 ∨ p.d.length % 8 ≠ 0) then 70 else if (65515 : Int) - 8 * p.at_ < p.d.length then 3 else 0
def earlyE (now tm : Int) (p : Pk) : Int := if mayE now tm = 0 then fitsE p.id p.at_ p.life p.kind else mayE now tm

theorem winv_put {x x' : WX} (h : Winv x) {a : Nat} {d : List UInt8} {mo : Bool} (hp : x'.pure = putP x.pure a d mo) (hc : clashB x.pure a d mo = false) (h64 : x.pieces ≠ 64) (hb : a + d.length ≤ 65515) (h8 : mo = false → 8 ≤ a) : Winv x' := by
  have e1 : x'.data = (putP x.pure a d mo).data := congrArg WP.data hp
  have e2 : x'.has = (putP x.pure a d mo).has := congrArg WP.has hp
  have e3 : x'.many = (putP x.pure a d mo).many := congrArg WP.many hp
  have e4 : x'.pieces = x.pieces + 1 := congrArg WP.pieces hp
  have e5 : x'.fin = if mo then x.fin else ((a + d.length : Nat) : Int) := congrArg WP.fin hp
  have e6 : x'.head.isSome = (x.head.isSome || a == 0) := congrArg WP.hd hp
  have l := putL_len d a (grownL 0 (a + d.length) x.data, grownL false (a + d.length) x.has, x.many)
  have ld : x'.data.length = x.data.length + (a + d.length - x.data.length) := by rw [e1]; exact l.1.trans (grownL_len _ _ _)
  have lh : x'.has.length = x.has.length + (a + d.length - x.has.length) := by rw [e2]; exact l.2.trans (grownL_len _ _ _)
  have hl := h.len
  have hbig := h.big
  simp only [clashB, Bool.or_eq_false_iff] at hc
  have hc1 := hc.1
  unfold clashH at hc1
  have xf : x.pure.fin = x.fin := rfl
  have xd : x.pure.data = x.data := rfl
  rw [xf, xd] at hc1
  refine ⟨by rw [ld, lh, hl], ?_, by rw [e4]; have := h.p0; omega, by rw [e4]; have := h.p1; omega, ?_, ?_, by rw [ld]; omega⟩
  · rw [e3, e2]
    refine putL_count d a _ ?_ ?_
    · show _ ≤ (grownL false (a + d.length) x.has).length
      rw [grownL_len]
      omega
    · show x.many = ((grownL false (a + d.length) x.has).count true : Nat)
      rw [grownL_count]
      exact h.many
  · rw [e5, ld]
    cases mo
    · simp at hc1
      have h88 := h8 rfl
      right
      rw [if_neg (by simp)]
      omega
    · simp at hc1
      rw [if_pos rfl]
      rcases h.fin with h1 | ⟨h1, h2⟩
      · exact .inl h1
      · have := hc1 (by omega)
        right
        omega
  · intro h0 hn
    rw [hn] at e6
    simp at e6
    rw [e2] at h0
    have h1 : (putP x.pure a d mo).has.getD 0 false = (grownL false (a + d.length) x.has).getD 0 false := putL_zero d a _ (by omega)
    rw [h1, grownL_zero] at h0
    exact h.head h0 e6.1
theorem done_head {x : WX} (h : Winv x) (he : x.many = x.fin) : ∃ g, x.head = some g := by
  have hm := h.many
  have hc := List.count_le_length (a := true) (l := x.has)
  have hl := h.len
  rcases h.fin with h1 | ⟨h1, h2⟩
  · omega
  · have hall : x.has.count true = x.has.length := by omega
    have h0 : x.has.getD 0 false = true := by
      rw [List.count_eq_length] at hall
      have hp : 0 < x.has.length := by omega
      rw [List.getD_eq_getElem?_getD, List.getElem?_eq_getElem hp]
      exact (hall _ (List.getElem_mem hp)).symm
    have := h.head h0
    cases hh : x.head with
    | none => exact absurd hh this
    | some g => exact ⟨g, rfl⟩

section
variable {w w' : World} {B tb c : Nat} {wait now : Int} {A : Option Addr} {L : List WX} {x : WX}
/-- A packet's block is none of the table's. -/
theorem pk_TF {g : Nat} {cs : Array Value} (t : TAt w B tb wait now A c L) (h : Blk w g 33 cs) : ¬ TF tb A L.length c g := by
  intro hk
  obtain ⟨cs', tt, fr, q0, q1, q2, q3, q4⟩ := t.row_typed g hk
  unfold Blk at h
  rw [h] at q0
  injection q0 with q0
  injection q0 with _ q0
  exact q4 q0.symm
theorem pk_WF {g : Nat} {cs : Array Value} (o : WAt w B x) (h : Blk w g 33 cs) : ¬ WF x g := by
  rintro (rfl | h1 | h1)
  · have h2 := o.blk
    unfold Blk at h2 h
    rw [h] at h2
    injection h2 with h2
    injection h2 with _ h2
    exact absurd h2 (by decide)
  · exact owns_ne o.data h (by decide) h1
  · exact owns_ne o.has h (by decide) h1
theorem own_TF {Bd : Nat} {D : Option Addr} {q : Nat} {d : List UInt8} (t : TAt w B tb wait now A c L) (h : Own w Bd D q d) : ∀ k, (Value.slice D d.length q).ownBlock = some k → ¬ TF tb A L.length c k := by
  intro k hk ht
  obtain ⟨cs', tt, fr, q0, q1, q2, q3, q4⟩ := t.row_typed k ht
  exact owns_ne h q0 (fun e => q2 e.symm) hk
/-- A packet's block takes another packet: the table stays. -/
theorem TAt.resulted (t : TAt w B tb wait now A c L) {gr : Nat} {cs : Array Value} (h : Blk w gr 33 cs) (hF : Frame (fun k => k = gr) w w') {a b c' d : Int} {e f : Bool} {g i : Int} {D : Option Addr} {n q : Nat} (h' : Blk w' gr 33 (pkV a b c' d e f g i D n q)) : TAt w' B tb wait now A c L := by
  refine ⟨t.blk.framed hF (fun e => ?_), ?_, fun x hx => ?_, t.inv, t.apart, t.base, t.n0, t.bg, t.w0, t.w1⟩
  · exact pk_TF t h (.inl e.symm)
  · refine owns_framed t.row hF (fun k hk e => ?_)
    subst e
    rw [List.length_map] at hk
    exact pk_TF t h (.inr hk)
  · have o := t.each x hx
    have hn := pk_WF o h
    refine ⟨o.blk.framed hF (fun e => hn (.inl e.symm)), owns_framed o.data hF (fun k hk e => hn (by subst e; exact .inr (.inl hk))), owns_framed o.has hF (fun k hk e => hn (by subst e; exact .inr (.inr hk))), o.base, fun y hy => ?_⟩
    have hy' := o.head y hy
    by_cases e' : y = gr
    · subst e'
      exact ⟨hy'.1, _, _, _, _, _, _, _, _, _, _, _, h'⟩
    · exact hy'.framed hF e'
end
end Go.Proofs.Ytpdkoooecnmjjaa
