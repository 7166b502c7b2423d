/-
  Slices of bytes: what they read as, a copy of one's own (base.Bytes), base.Among.
-/
import Derived.Test.YtpdkoooecnmjjaaAmong
import Derived.WalkKit
import Derived.WalkLawsBesides
import Derived.WalkSpells
import Derived.WalkMore
import Derived.ScopeJumps
import Derived.Below
import Derived.Outline
import Derived.Handy
import Derived.Lib.Hide
import Derived.Deep.Draws
import Derived.Laws.AppendOwnNone
namespace Go.Proofs.Ytpdkoooecnmjjaa
open Go.RowKit

def bval (x : UInt8) : Value := .int .u8 (x.toNat : Int)

/-- The slice at A reads as these bytes (its length: theirs). -/
def Bs (w : World) (A : Option Addr) (bs : List UInt8) : Prop :=
  bs = [] ∨ ∃ b off, A = some ⟨b, off, none⟩ ∧ ∀ i, i < bs.length → w.cell? ⟨b, off + i, none⟩ = some (.int .u8 ((bs.getD i 0).toNat : Int))
/-- .. and it is well formed: its capacity is no less than its length, and 0 if it is nil. -/
def Sl (w : World) (A : Option Addr) (c : Nat) (bs : List UInt8) : Prop :=
  Bs w A bs ∧ bs.length ≤ c ∧ c ≤ 9223372036854775807 ∧ (A = none → c = 0)
/-- A slice of one's own, in blocks from B on. -/
def Own (w : World) (B : Nat) (A : Option Addr) (c : Nat) (bs : List UInt8) : Prop :=
  w.ownsRow B 5 1 (.slice A bs.length c) bs.length (bs.map bval)

theorem Bs.at_ {w : World} {A : Option Addr} {bs : List UInt8} (h : Bs w A bs) (hp : 0 < bs.length) : ∃ b off, A = some ⟨b, off, none⟩ ∧ ∀ i, i < bs.length → w.cell? ⟨b, off + i, none⟩ = some (.int .u8 ((bs.getD i 0).toNat : Int)) := by
  rcases h with rfl | h
  · simp at hp
  · exact h
theorem Bs.keep {w w' : World} {A : Option Addr} {bs : List UInt8} (h : Bs w A bs) (hk : ∀ a v, w.cell? a = some v → w'.cell? a = some v) : Bs w' A bs := by
  rcases h with rfl | ⟨b, off, hA, hc⟩
  · exact .inl rfl
  · exact .inr ⟨b, off, hA, fun i hi => hk _ _ (hc i hi)⟩
theorem Sl.keep {w w' : World} {A : Option Addr} {c : Nat} {bs : List UInt8} (h : Sl w A c bs) (hk : ∀ a v, w.cell? a = some v → w'.cell? a = some v) : Sl w' A c bs := ⟨h.1.keep hk, h.2⟩
theorem keep_below {w w' : World} (hb : Below w.heap.size w w') : ∀ a v, w.cell? a = some v → w'.cell? a = some v := fun a v hv => by
  rw [hb.cell (World.block_lt_of_cell? w a hv)]; exact hv
theorem Bs.below {w w' : World} {A : Option Addr} {bs : List UInt8} (h : Bs w A bs) (hb : Below w.heap.size w w') : Bs w' A bs := h.keep (keep_below hb)
theorem Sl.below {w w' : World} {A : Option Addr} {c : Nat} {bs : List UInt8} (h : Sl w A c bs) (hb : Below w.heap.size w w') : Sl w' A c bs := h.keep (keep_below hb)

/-- Only draws lie between. -/
def Drawn (w w' : World) : Prop := ∃ n, w' = w.drewN n
theorem Drawn.refl (w : World) : Drawn w w := ⟨0, rfl⟩
theorem Drawn.more {w w' : World} (h : Drawn w w') (n : Nat) : Drawn w (w'.drewN n) := by
  obtain ⟨m, rfl⟩ := h
  exact ⟨m + n, by rw [World.drewN_drewN]⟩
theorem Drawn.trans {a b c : World} (h : Drawn a b) (k : Drawn b c) : Drawn a c := by
  obtain ⟨m, rfl⟩ := k
  exact h.more m
theorem Drawn.cell {w w' : World} (h : Drawn w w') (a : Addr) : w'.cell? a = w.cell? a := by
  obtain ⟨m, rfl⟩ := h
  rfl
theorem Drawn.below {w w' : World} (h : Drawn w w') (B : Nat) : Below B w w' := by
  obtain ⟨m, rfl⟩ := h
  exact ⟨rfl, rfl, rfl, Nat.le_refl _, fun _ _ => rfl⟩
theorem Sl.drawn {w w' : World} {A : Option Addr} {c : Nat} {bs : List UInt8} (h : Sl w A c bs) (hd : Drawn w w') : Sl w' A c bs := h.keep fun a v hv => by rw [hd.cell, hv]
theorem Bs.drawn {w w' : World} {A : Option Addr} {bs : List UInt8} (h : Bs w A bs) (hd : Drawn w w') : Bs w' A bs := h.keep fun a v hv => by rw [hd.cell, hv]
theorem below_drewN {B : Nat} {a w : World} (h : Below B a w) (n : Nat) : Below B a (w.drewN n) := ⟨h.os, h.tape, h.output, h.size, h.block⟩

theorem Bs.take {w : World} {A : Option Addr} {bs : List UInt8} (h : Bs w A bs) (k : Nat) : Bs w A (bs.take k) := by
  rcases h with rfl | ⟨b, off, hA, hc⟩
  · exact .inl (by simp)
  · refine .inr ⟨b, off, hA, fun i hi => ?_⟩
    rw [List.length_take] at hi
    rw [hc i (by omega)]
    simp [List.getD_eq_getElem?_getD, show i < k by omega]
theorem Sl.take {w : World} {A : Option Addr} {c : Nat} {bs : List UInt8} (h : Sl w A c bs) (k : Nat) : Sl w A c (bs.take k) :=
  ⟨h.1.take k, by have := h.2.1; rw [List.length_take]; omega, h.2.2⟩

theorem add_lit' (b off m : Nat) : (⟨b, off, none⟩ : Addr).add m = ⟨b, off + m, none⟩ := by
  unfold Addr.add
  split <;> simp_all
theorem Bs.drop {w : World} {A : Option Addr} {bs : List UInt8} (h : Bs w A bs) (m : Nat) : Bs w (A.map (fun x => x.add m)) (bs.drop m) := by
  rcases h with rfl | ⟨b, off, rfl, hc⟩
  · exact .inl (by simp)
  · refine .inr ⟨b, off + m, by simp [add_lit'], fun i hi => ?_⟩
    rw [List.length_drop] at hi
    rw [Nat.add_assoc, hc (m + i) (by omega)]
    simp [List.getD_eq_getElem?_getD]
theorem Sl.drop {w : World} {A : Option Addr} {c : Nat} {bs : List UInt8} (h : Sl w A c bs) (m : Nat) : Sl w (A.map (fun x => x.add m)) (c - m) (bs.drop m) :=
  ⟨h.1.drop m, by have := h.2.1; rw [List.length_drop]; omega, by have := h.2.2.1; omega, fun hn => by
    have : A = none := by cases A <;> simp_all
    have := h.2.2.2 this
    omega⟩
/-- .. as the model writes it: at the capacity itself the address stays. -/
theorem Sl.cut {w : World} {A : Option Addr} {c : Nat} {bs : List UInt8} (h : Sl w A c bs) (m : Nat) (hm : m ≤ bs.length) : Sl w (if c = m then A else A.map (fun x => x.add m)) (c - m) (bs.drop m) := by
  split
  · have h1 := h.2.1
    have e : bs.drop m = [] := List.drop_eq_nil_of_le (by omega)
    rw [e]
    exact ⟨.inl rfl, by simp, by have := h.2.2.1; omega, fun hn => by have := h.2.2.2 hn; omega⟩
  · exact h.drop m

theorem bval_one (bs : List UInt8) : ∀ u ∈ bs.map bval, u.oneCell' = true := by
  intro u hu
  obtain ⟨x, _, rfl⟩ := List.mem_map.1 hu
  rfl

theorem Own.bs {w : World} {B : Nat} {A : Option Addr} {c : Nat} {bs : List UInt8} (h : Own w B A c bs) : Bs w A bs := by
  by_cases hz : bs = []
  · exact .inl hz
  · rcases h.2 with ⟨_, h0⟩ | ⟨g, cap, cur, hv, _, hg, _, _, _, ht⟩
    · exact absurd (List.length_eq_zero_iff.1 h0) hz
    · injection hv with hA
      subst hA
      refine .inr ⟨g, 0, rfl, fun i hi => ?_⟩
      rw [Nat.zero_add, cell_of_row w g i cur _ (0, 0) hg]
      have : (cur.toList.take (bs.length * 1))[i]? = (bs.map bval)[i]? := by rw [ht]
      rw [List.getElem?_take, if_pos (by omega)] at this
      simp [List.getElem?_eq_getElem hi] at this
      rw [this]
      simp [bval, List.getD_eq_getElem?_getD, List.getElem?_eq_getElem hi]
theorem Own.sl {w : World} {B : Nat} {A : Option Addr} {c : Nat} {bs : List UInt8} (h : Own w B A c bs) : Sl w A c bs := by
  refine ⟨h.bs, ?_⟩
  rcases h.2 with ⟨hv, h0⟩ | ⟨g, cap, cur, hv, _, hg, hc, hm, _, ht⟩
  · injection hv with h1 h2 h3
    exact ⟨by omega, by omega, fun _ => h3⟩
  · injection hv with h1 h2 h3
    subst h3
    exact ⟨hc, by simpa [maxLen] using hm, fun h => by rw [h] at h1; cases h1⟩

theorem Own.form {w : World} {B : Nat} {A : Option Addr} {c : Nat} {bs : List UInt8} (h : Own w B A c bs) (hp : 0 < bs.length) : ∃ g, A = some ⟨g, 0, none⟩ ∧ B ≤ g ∧ g < w.heap.size := by
  rcases h.2 with ⟨_, h0⟩ | ⟨g, cap, cur, hv, hb, hg, _⟩
  · omega
  · injection hv with h1
    exact ⟨g, h1, hb, (Array.getElem?_eq_some_iff.1 hg).1⟩
theorem Own.cell {w : World} {B g : Nat} {c : Nat} {bs : List UInt8} (h : Own w B (some ⟨g, 0, none⟩) c bs) (j : Nat) (hj : j < bs.length) : w.cell? ⟨g, j, none⟩ = some (.int .u8 ((bs.getD j 0).toNat : Int)) := by
  have := World.ownsRow.cellAt h j (by omega)
  rw [this]
  simp [bval, List.getD_eq_getElem?_getD, List.getElem?_eq_getElem hj]
theorem Own.free {w : World} {B g : Nat} {c : Nat} {bs : List UInt8} (h : Own w B (some ⟨g, 0, none⟩) c bs) (j : Nat) : w.frozen? ⟨g, j, none⟩ = false := World.ownsRow.frozenAt h j
theorem Own.set {w : World} {B g : Nat} {c : Nat} {bs : List UInt8} (h : Own w B (some ⟨g, 0, none⟩) c bs) (j : Nat) (v : Int) (h0 : 0 ≤ v) (h1 : v < 256) :
    Own (w.setCell ⟨g, j, none⟩ (.int .u8 v)) B (some ⟨g, 0, none⟩) c (bs.set j (UInt8.ofNat v.toNat)) := by
  have := (World.ownsRow.stored h j (.int .u8 v)).1
  unfold Own
  rw [List.length_set, List.map_set]
  have e : bval (UInt8.ofNat v.toNat) = .int .u8 v := by
    unfold bval
    rw [UInt8.toNat_ofNat', show ((v.toNat % 2 ^ 8 : Nat) : Int) = v by omega]
  rw [e]
  exact this
theorem Own.base {w : World} {B B' : Nat} {A : Option Addr} {c : Nat} {bs : List UInt8} (h : Own w B A c bs) (hB : B' ≤ B) : Own w B' A c bs := by
  refine ⟨h.1, ?_⟩
  rcases h.2 with h2 | ⟨g, cap, cur, hv, hb, r⟩
  · exact .inl h2
  · exact .inr ⟨g, cap, cur, hv, Nat.le_trans hB hb, r⟩
theorem Own.keep {w w' : World} {B : Nat} {A : Option Addr} {c : Nat} {bs : List UInt8} (h : Own w B A c bs) (hb : Below w.heap.size w w') : Own w' B A c bs :=
  World.ownsRow.kept (row := none) h ⟨hb.os, hb.tape, hb.output, hb.size, fun k hk _ => hb.block k hk⟩ (by
    cases hv : (Value.slice A bs.length c).ownBlock with
    | none => exact .inl rfl
    | some g => exact .inr (by simp))

/-- What base.Bytes and its like hand back: a slice of one's own that reads as these. -/
def Made (bs : List UInt8) (w : World) (e : Ending) (w' : World) : Prop :=
  ∃ A c, e = .returned (.slice A bs.length c) ∧ Own w' w.heap.size A c bs ∧ Below w.heap.size w w'

/-- A slice of bytes that came in, as the frame of a law's proof tells it. -/
theorem row_sl {w : World} {a : Option Addr} {len cap : Nat} {zs : List Int}
    (h : (a = none ∧ len = 0 ∧ cap = 0 ∧ zs = []) ∨
      ∃ x, a = some x ∧ len ≤ cap ∧ cap ≤ maxLen ∧ zs.length = cap ∧ (∀ i, i < zs.length → w.cell? (x.add i) = some (.int .u8 (zs.getD i 0))) ∧ ∀ n ∈ zs, (Lit.int .u8 n).wf = true) :
    ∃ bs : List UInt8, bs.length = len ∧ Sl w a cap bs := by
  rcases h with ⟨rfl, rfl, rfl, rfl⟩ | ⟨x, rfl, hl, hm, hz, hc, hw⟩
  · exact ⟨[], rfl, .inl rfl, Nat.le_refl _, by decide, fun _ => rfl⟩
  · refine ⟨(zs.take len).map fun n => UInt8.ofNat n.toNat, by simp; omega, ?_, by simp; omega, by simpa [maxLen] using hm, fun h => by cases h⟩
    by_cases h0 : len = 0
    · exact .inl (by simp [h0])
    · obtain ⟨b, off, spot⟩ := x
      have hsp : spot = none := by
        have h1 := World.cell?_spot (hc 0 (by omega))
        simpa [Addr.add] using h1
      subst hsp
      refine .inr ⟨b, off, rfl, fun i hi => ?_⟩
      have hi' : i < zs.length := by simp at hi; omega
      have e : (⟨b, off, none⟩ : Addr).add i = ⟨b, off + i, none⟩ := by
        unfold Addr.add
        split <;> simp_all
      have h2 := hc i hi'
      rw [e] at h2
      rw [h2]
      have hil : i < len := by simp at hi; omega
      have hn : zs[i] ∈ zs := List.getElem_mem hi'
      have hb := hw _ hn
      have hb' : 0 ≤ zs[i] ∧ zs[i] < 256 := by
        have := bounds_u8 hb
        omega
      simp [List.getD_eq_getElem?_getD, List.getElem?_eq_getElem hi', hil]
      omega

theorem info_u8 : (Try.prog.info? 5).map (fun i => (i.zero, i.size, i.bytes)) = some (some (.int .u8 0), 1, 1) := by kernel_rfl

theorem ownBlock_lt {w : World} {B : Nat} {A : Option Addr} {c : Nat} {bs : List UInt8} (h : Own w B A c bs) : ∀ k, (Value.slice A bs.length c).ownBlock = some k → B ≤ k ∧ k < w.heap.size := World.ownsRow.lt h

theorem own_nil_made (w : World) (B : Nat) (hB : B ≤ w.heap.size) : Own (w.alloc (.cells #[] 5)) B (some ⟨w.heap.size, 0, none⟩) 0 [] :=
  World.ownsRow_made w #[] 0 hB (by decide) (by simp)

theorem Sl.news {w : World} {ad : Addr} {c : Nat} {bs : List UInt8} (h : Sl w (some ad) c bs) : ∀ j u, (bs.map bval)[j]? = some u → w.cell? (ad.add j) = some u := by
  intro j u hu
  have hj : j < bs.length := by
    rcases Nat.lt_or_ge j bs.length with hj | hj
    · exact hj
    · rw [List.getElem?_eq_none (by simpa using hj)] at hu; cases hu
  obtain ⟨b, off, hA, hc⟩ := h.1.at_ (by omega)
  injection hA with hA
  subst hA
  have e : (⟨b, off, none⟩ : Addr).add j = ⟨b, off + j, none⟩ := by
    unfold Addr.add
    split <;> simp_all
  rw [e, hc j hj]
  simp [List.getElem?_eq_getElem hj] at hu
  simp [← hu, bval, List.getD_eq_getElem?_getD, List.getElem?_eq_getElem hj]

/-- append onto bytes of one's own, the source nil, empty or not. -/
theorem app_bytes {ops : Array Oper} {rest : List Oper} {o : Oper} {a : Act} {Q : Exit → Act → World → Prop} (w : World) (hgd : o.guard = none) (s x : Operand)
    (ho : o.op = .call { callee := .builtin .append, args := #[s, x], argTypes := #[31, 31] })
    (B : Nat) (A : Option Addr) (c : Nat) (xs : List UInt8) (hs : a.eval s = .slice A xs.length c) (hown : Own w B A c xs)
    (A' : Option Addr) (c' : Nat) (ys : List UInt8) (hx : a.eval x = .slice A' ys.length c') (hsl : Sl w A' c' ys)
    (hl : xs.length + ys.length ≤ 140737488355328) (hB : B ≤ w.heap.size)
    (h : ∀ A2 c2 w', Own w' B A2 c2 (xs ++ ys) → w.grownBy w' (Value.slice A xs.length c).ownBlock → wpList Try.prog ops Q rest (a.put o.dst (.slice A2 (xs.length + ys.length) c2)) w') : wpList Try.prog ops Q (o :: rest) a w := by
  obtain ⟨i0, hi, hz0, hz1, hz2⟩ := info_parts info_u8
  rcases A' with _ | ad
  · have hc := hsl.2.2.2 rfl
    have hb : ys = [] := List.length_eq_zero_iff.1 (by have := hsl.2.1; omega)
    subst hc hb
    refine wpList_append_own_none hgd s x _ ho B _ i0 1 Try.underlying31 hi _ _ _ hs hown hx ?_
    exact h A c w (by simpa using hown) (World.grownBy.refl w _)
  · refine wpList_append_own w hgd s x _ ho B _ i0 (.int .u8 0) 1 1 Try.underlying31 hi hz0 hz1 hz2 rfl (by decide) _ _ _ hs hown ad ys.length c' (ys.map bval) hx (by simp) hsl.news (bval_one ys) (by simp only [maxLen]; omega) (by omega) hB ?_
    intro v' w' h2 h3 _
    have hex : ∃ A2 c2, v' = .slice A2 (xs.length + ys.length) c2 := by
      rcases h2.2 with ⟨hv, h0⟩ | ⟨g, cap, cur, hv, _⟩
      · exact ⟨none, 0, by rw [hv, h0]⟩
      · exact ⟨_, cap, hv⟩
    obtain ⟨A2, c2, rfl⟩ := hex
    refine h A2 c2 w' ?_ h3
    unfold Own
    rw [List.map_append, List.length_append]
    exact h2

set_option maxRecDepth 100000 in
theorem bytes_any (A : Option Addr) (bs : List UInt8) (c : Nat) (w : World) (hs : Sl w A c bs) (hl : bs.length ≤ 140737488355328) :
    Calls Try.prog 21 #[.slice A bs.length c] w (Made bs w) := by
  have hs1 := hs.keep (w' := w.alloc (.cells #[] 5)) (keep_below ((Below.refl _ _).alloc (Nat.le_refl _) _))
  go_enter Try.func21, Try.ntmps21
  go_wp2_with (at_builtin; refine app_bytes _ rfl _ _ rfl w.heap.size _ 0 [] rfl (own_nil_made w _ (Nat.le_refl _)) A c bs rfl hs1 (by simpa using hl) (by simp) ?_; intro A2 c2 w1 hown hg)
  go_ret
  refine ⟨A2, c2, rfl, by simpa using hown, ((Below.refl _ _).alloc (Nat.le_refl _) _).grown hg (by simp) ?_⟩
  intro k hk
  simp [Value.ownBlock] at hk
  omega

theorem bytes_n (A : Option Addr) (bs : List UInt8) (n c : Nat) (w : World) (hn : bs.length = n) (hs : Sl w A c bs) (hl : bs.length ≤ 140737488355328) :
    Calls Try.prog 21 #[.slice A n c] w (Made bs w) := by
  subst hn
  exact bytes_any A bs c w hs hl

theorem bs_lit (w : World) (bs : List UInt8) : Bs (w.alloc (.cells (bs.map bval).toArray 5)) (some ⟨w.heap.size, 0, none⟩) bs := by
  refine .inr ⟨_, _, rfl, fun i hi => ?_⟩
  rw [Nat.zero_add, cell_of_row _ _ i (bs.map bval).toArray _ (0, 0) (heap_alloc_new w _)]
  simp [bval, List.getD_eq_getElem?_getD, List.getElem?_eq_getElem hi]

end Go.Proofs.Ytpdkoooecnmjjaa
