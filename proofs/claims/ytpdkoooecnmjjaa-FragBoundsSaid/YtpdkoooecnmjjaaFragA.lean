/-
  Wholes and tables in memory; rows of pointers, of bools.
-/
import Derived.Test.YtpdkoooecnmjjaaAppMake
import Derived.Test.YtpdkoooecnmjjaaBlk9
import Derived.Test.YtpdkoooecnmjjaaClone
import Derived.Lib.SliceRun
import Derived.Deep.QuietTactic
import Derived.BigQuiet
import Derived.RegionTactic
import Derived.BigRegion
namespace Go.Proofs.Ytpdkoooecnmjjaa
open Go.RowKit
set_option linter.unusedVariables false

/-- What was there is as it was, but for the blocks of F. -/
structure Frame (F : Nat → Prop) (w w' : World) : Prop where
  os : w'.os = w.os
  tape : w'.tape = w.tape
  output : w'.output = w.output
  size : w.heap.size ≤ w'.heap.size
  block : ∀ k, k < w.heap.size → ¬ F k → w'.heap[k]? = w.heap[k]?
section
variable {F G : Nat → Prop} {a b c w w' : World}
theorem Frame.refl (F : Nat → Prop) (w : World) : Frame F w w := ⟨rfl, rfl, rfl, Nat.le_refl _, fun _ _ _ => rfl⟩
theorem Frame.trans (h : Frame F a b) (k : Frame G b c) (hG : ∀ i, G i → F i ∨ a.heap.size ≤ i) : Frame F a c :=
  ⟨k.os.trans h.os, k.tape.trans h.tape, k.output.trans h.output, Nat.le_trans h.size k.size, fun i hi hF => (k.block i (Nat.lt_of_lt_of_le hi h.size) (fun hg => by
    rcases hG i hg with h1 | h1
    · exact hF h1
    · omega)).trans (h.block i hi hF)⟩
theorem Frame.drewN (h : Frame F a w) (n : Nat) : Frame F a (w.drewN n) := ⟨h.os, h.tape, h.output, h.size, h.block⟩
theorem Frame.drawn (h : Frame F a w) (hd : Drawn w w') : Frame F a w' := by
  obtain ⟨n, rfl⟩ := hd
  exact h.drewN n
theorem Frame.set (h : Frame F a w) {p : Addr} (hp : F p.block ∨ a.heap.size ≤ p.block) (u : Value) : Frame F a (w.setCell p u) :=
  ⟨h.os, h.tape, h.output, by simpa [World.setCell] using h.size, fun i hi hF => (Below.heap_setCell w p u i (fun e => by
    subst e
    rcases hp with h1 | h1
    · exact hF h1
    · omega)).trans (h.block i hi hF)⟩
theorem Frame.below {B : Nat} (hb : Below B a w) (h : Frame F w w') (hF : ∀ i, F i → B ≤ i) (hB : B ≤ w.heap.size) : Below B a w' :=
  hb.trans ⟨h.os, h.tape, h.output, h.size, fun k hk => h.block k (by omega) (fun hf => by have := hF k hf; omega)⟩
theorem Frame.of_below (h : Below w.heap.size w w') : Frame F w w' := ⟨h.os, h.tape, h.output, h.size, fun k hk _ => h.block k hk⟩
theorem Frame.mono (h : Frame F w w') (hG : ∀ i, F i → G i) : Frame G w w' := ⟨h.os, h.tape, h.output, h.size, fun k hk hg => h.block k hk (fun hf => hg (hG k hf))⟩
theorem Frame.grown {row : Option Nat} (h : Frame F a w) (hg : w.grownBy w' row) (hr : ∀ k, row = some k → F k ∨ a.heap.size ≤ k) : Frame F a w' :=
  ⟨hg.os.trans h.os, hg.tape.trans h.tape, hg.output.trans h.output, Nat.le_trans h.size hg.size, fun i hi hF => (hg.block i (Nat.lt_of_lt_of_le hi h.size) (fun e => by
    rcases hr i e.symm with h1 | h1
    · exact hF h1
    · omega)).trans (h.block i hi hF)⟩
theorem Frame.alloc (h : Frame F a w) (o : Obj) : Frame F a (w.alloc o) :=
  ⟨h.os, h.tape, h.output, Nat.le_trans h.size (by simp), fun i hi hF => (Below.heap_alloc w o i (Nat.lt_of_lt_of_le hi h.size)).trans (h.block i hi hF)⟩
theorem Blk.framed {t : TypeId} {g : Nat} {cs : Array Value} (h : Blk w g t cs) (hf : Frame F w w') (hn : ¬ F g) : Blk w' g t cs := (hf.block g h.lt hn).trans h
theorem owns_framed {B : Nat} {t : TypeId} {z n : Nat} {v : Value} {xs : List Value} (o : w.ownsRow B t z v n xs) (hf : Frame F w w') (hn : ∀ k, v.ownBlock = some k → ¬ F k) : w'.ownsRow B t z v n xs := by
  refine ⟨o.1, ?_⟩
  rcases o.2 with h2 | ⟨g', cap, cur, hv, hb, hx, q⟩
  · exact .inl h2
  · refine .inr ⟨g', cap, cur, hv, hb, ?_, q⟩
    rw [hf.block g' (Array.getElem?_eq_some_iff.1 hx).1 (hn g' (by rw [hv]; simp [Value.ownBlock]))]
    exact hx
theorem owns_mono {base base' : Nat} {e : TypeId} {size : Nat} {v : Value} {n : Nat} {xs : List Value} (h : w.ownsRow base e size v n xs) (hb : base' ≤ base) : w.ownsRow base' e size v n xs :=
  ⟨h.1, h.2.imp id (fun ⟨g, cap, cur, a, b, r⟩ => ⟨g, cap, cur, a, Nat.le_trans hb b, r⟩)⟩
/-- A row of one type lies in no block of another. -/
theorem owns_ne {B : Nat} {t t' : TypeId} {z n k : Nat} {v : Value} {xs : List Value} {cs : Array Value} {fr : Nat × Nat} (o : w.ownsRow B t z v n xs) (hk : w.heap[k]? = some (.cells cs t' fr)) (ht : t ≠ t') : v.ownBlock ≠ some k := by
  rcases o.2 with ⟨rfl, _⟩ | ⟨g', cap, cur, rfl, hb, hx, q⟩
  · simp [Value.ownBlock]
  · intro e
    have e' : g' = k := by simpa [Value.ownBlock] using e
    subst e'
    rw [hx] at hk
    injection hk with hk
    injection hk with _ h2
    exact ht h2
theorem owns_typed {B : Nat} {t : TypeId} {z n k : Nat} {v : Value} {xs : List Value} (o : w.ownsRow B t z v n xs) (hk : v.ownBlock = some k) : ∃ cs, w.heap[k]? = some (.cells cs t (0, 0)) := by
  rcases o.2 with ⟨rfl, _⟩ | ⟨g', cap, cur, rfl, hb, hx, q⟩
  · simp [Value.ownBlock] at hk
  · have e' : g' = k := by simpa [Value.ownBlock] using hk
    subst e'
    exact ⟨cur, hx⟩
end

/-- A pointer to block a. -/
abbrev PV (a : Nat) : Value := .pointer (some ⟨a, 0, none⟩)
def OwnP (w : World) (B : Nat) (A : Option Addr) (c : Nat) (ps : List Nat) : Prop := w.ownsRow B 48 1 (.slice A ps.length c) ps.length (ps.map PV)
def OwnB (w : World) (B : Nat) (A : Option Addr) (c : Nat) (bs : List Bool) : Prop := w.ownsRow B 4 1 (.slice A bs.length c) bs.length (bs.map Value.bool)
section
variable {w w' : World} {B c : Nat} {A : Option Addr} {ps : List Nat} {bs : List Bool}
theorem OwnP.form (o : OwnP w B A c ps) : A = none ∧ ps = [] ∧ c = 0 ∨ ∃ g, A = some ⟨g, 0, none⟩ ∧ B ≤ g ∧ g < w.heap.size := by
  rcases o.2 with ⟨hv, h0⟩ | ⟨g, cap, cur, hv, hb, hg, _⟩
  · injection hv with h1 h2 h3
    exact .inl ⟨h1, List.length_eq_zero_iff.1 h0, h3⟩
  · injection hv with h1
    exact .inr ⟨g, h1, hb, (Array.getElem?_eq_some_iff.1 hg).1⟩
theorem OwnP.cell {g : Nat} (o : OwnP w B (some ⟨g, 0, none⟩) c ps) (i : Nat) (a : Nat) (ha : ps[i]? = some a) : w.cell? ⟨g, i, none⟩ = some (PV a) := by
  have hi : i < ps.length := (List.getElem?_eq_some_iff.1 ha).1
  rw [World.ownsRow.cellAt o i (by omega), List.getElem?_map, ha]
  rfl
theorem OwnP.cap (o : OwnP w B A c ps) : ps.length ≤ c := by
  rcases o.2 with ⟨hv, h0⟩ | ⟨g, cap, cur, hv, hb, hg, hc, _⟩
  · omega
  · injection hv with h1 h2 h3; omega
theorem OwnP.keep (o : OwnP w B A c ps) (hb : Below w.heap.size w w') : OwnP w' B A c ps := owns_framed o (Frame.of_below (F := fun _ => False) hb) (fun _ _ h => h)
theorem OwnB.keep (o : OwnB w B A c bs) (hb : Below w.heap.size w w') : OwnB w' B A c bs := owns_framed o (Frame.of_below (F := fun _ => False) hb) (fun _ _ h => h)
end
theorem info_ptr : (Try.prog.info? 48).map (fun i => (i.zero, i.size, i.bytes)) = some (some (.pointer none), 1, 8) := by kernel_rfl
theorem info_bool : (Try.prog.info? 4).map (fun i => (i.zero, i.size, i.bytes)) = some (some (.bool false), 1, 1) := by kernel_rfl
theorem info_parts' {t : TypeId} {z : Value} {s b : Nat} (h : (Try.prog.info? t).map (fun i => (i.zero, i.size, i.bytes)) = some (some z, s, b)) : ∃ i, Try.prog.info? t = some i ∧ i.zero = some z ∧ i.size = s ∧ i.bytes = b := by
  cases hi : Try.prog.info? t with
  | none => rw [hi] at h; simp at h
  | some i => rw [hi] at h; simp at h; exact ⟨i, rfl, h.1, h.2.1, h.2.2⟩

/-- What is asked of a predicate over the wholes ps: it may make memory of its own. -/
def PredF (gid : FuncId) (cap : Array Value) (p : Nat → Bool) (ps : List Nat) (w : World) (row : Option Nat) : Prop :=
  ∀ (W : World) (a : Nat), a ∈ ps → w.grownBy W row → Calls Try.prog gid (#[PV a] ++ cap) W fun e w' => e = .returned (.bool (p a)) ∧ Below W.heap.size W w'
theorem PredF.none {gid : FuncId} {cap : Array Value} {p : Nat → Bool} {ps : List Nat} {w : World} {row : Option Nat} (h : PredF gid cap p ps w row) : PredF gid cap p ps w none :=
  fun W a ha hg => h W a ha ⟨hg.os, hg.tape, hg.output, hg.size, fun k hk _ => hg.block k hk (by simp)⟩
theorem below_grown0' {w w' : World} (h : Below w.heap.size w w') (row : Option Nat) : w.grownBy w' row := ⟨h.os, h.tape, h.output, h.size, fun k hk _ => h.block k hk⟩
/-- The first place where p holds, or -1. -/
def IndexR (p : Nat → Bool) (ps : List Nat) (w : World) (e : Ending) (w' : World) : Prop :=
  ∃ r : Int, e = .returned (.int .i64 r) ∧ Below w.heap.size w w' ∧ ((r = -1 ∧ ∀ a ∈ ps, p a = false) ∨ ∃ k a : Nat, r = k ∧ ps[k]? = some a ∧ p a = true ∧ ∀ j, j < k → ∀ b, ps[j]? = some b → p b = false)

set_option maxHeartbeats 2000000 in
set_option maxRecDepth 100000 in
theorem index_any (gid : FuncId) (cap : Array Value) (p : Nat → Bool) (ps : List Nat) (B : Nat) (A : Option Addr) (c : Nat) (w : World) (eg : ∀ args w, (callFunc gid args).run Try.prog w = .ok (.enter gid args) w)
    (ho : OwnP w B A c ps) (hp : PredF gid cap p ps w none) (hl : ps.length ≤ 1000) :
    Calls Try.prog 26 #[.slice A ps.length c, .func (.func gid) #[] cap] w (IndexR p ps w) := by
  have HO := Lib.hid ho
  have HP := Lib.hid hp
  have HL := Lib.hid hl
  obtain ⟨n, EN⟩ : ∃ z, Hid (ps.length = z) := ⟨_, rfl⟩
  rw [EN.out]
  clear ho hp hl
  go_enter Try.func26, Try.ntmps26
  go_wp2_with fail
  go_loopw [8] (fun i wr => ∃ k : Nat, k ≤ n ∧ i = .int .i64 k ∧ Below w.heap.size w wr ∧ ∀ j, j < k → ∀ a, ps[j]? = some a → p a = false) (fun i _ => n - (intOf i).toNat)
  case atStart => exact ⟨0, Nat.zero_le _, rfl, Below.refl _ _, fun j hj => absurd hj (Nat.not_lt_zero _)⟩
  case round =>
    obtain ⟨k, hk, rfl, hb, hno⟩ := hrel
    have HB := Lib.hid hb
    have HNO := Lib.hid hno
    have hn1000 : n ≤ 1000 := by have := HL.out; rw [EN.out] at this; exact this
    clear hb hno
    by_cases hlt : k < n
    · rcases HO.out.form with ⟨_, h0, _⟩ | ⟨g, rfl, hg1, hg2⟩
      · have := EN.out; rw [h0] at this; simp at this; omega
      obtain ⟨a, ha⟩ : ∃ a, ps[k]? = some a := ⟨_, List.getElem?_eq_getElem (by rw [EN.out]; exact hlt)⟩
      have ck := (HO.out.keep HB.out).cell k a ha
      have hlt' : (k : Int) < (n : Int) := by omega
      have HC := Lib.hid (HP.out wr a (List.mem_of_getElem? ha) (below_grown0' HB.out none))
      have HA := Lib.hid ha
      have HN : Hid (n - (k + 1) < n - k) := by show _ < _; omega
      clear ha hg1 hg2
      go_wp2_with fail
      refine HC.out.mono ?_
      rintro e w' ⟨rfl, hb⟩
      have HB2 := Lib.hid (HB.out.trans (hb.mono HB.out.size))
      clear hb
      cases hpa : p a
      · have HPA := Lib.hid hpa
        clear hpa
        go_wp2_with fail
        go_roundw
        case rel => exact ⟨k + 1, by omega, by go_num, HB2.out, fun j hj b hb => by
          by_cases e : j = k
          · subst e
            have := HA.out
            rw [hb] at this
            injection this with this
            subst this
            exact HPA.out
          · exact HNO.out j (by omega) b hb⟩
        case measure => simp [intOf]; exact HN.out
      · have HPA := Lib.hid hpa
        clear hpa
        go_wp2_with fail
        go_ret
        exact ⟨k, rfl, HB2.out, .inr ⟨k, a, rfl, HA.out, HPA.out, HNO.out⟩⟩
    · have e : k = n := by omega
      subst e
      go_wp2_with fail
      go_ret
      refine ⟨-1, rfl, HB.out, .inl ⟨rfl, fun a ha => ?_⟩⟩
      obtain ⟨j, hj⟩ := List.getElem?_of_mem ha
      exact HNO.out j (by have := (List.getElem?_eq_some_iff.1 hj).1; rw [EN.out] at this; exact this) a hj
end Go.Proofs.Ytpdkoooecnmjjaa
