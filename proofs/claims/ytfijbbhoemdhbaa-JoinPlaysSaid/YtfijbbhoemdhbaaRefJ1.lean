/-
  The reference's joint: what it has, and the walks of New, Window, has.
-/
import Derived.Test.YtfijbbhoemdhbaaPlainRefJoin
import Derived.Test.YtfijbbhoemdhbaaJoinWorks
import Derived.Laws.OwnMore
import Derived.Deep.AppendLies
namespace Go.Proofs.Ytfijbbhoemdhbaa
open Go.RowKit
set_option linter.unusedVariables false

def hval (x : Nat × UInt8) : List Value := [.int .i64 (x.1 : Int), .int .u8 (x.2.toNat : Int)]
theorem hflat_length : ∀ L : HB, (L.flatMap hval).length = L.length * 2
  | [] => rfl
  | c :: L => by simp only [List.flatMap_cons, List.length_append, hflat_length L, List.length_cons]; simp [hval]; omega
theorem hflat_at : ∀ (L : HB) (i r : Nat) (c : Nat × UInt8), L[i]? = some c → r < 2 → (L.flatMap hval)[i * 2 + r]? = (hval c)[r]?
  | [], i, r, c, h, _ => by simp at h
  | d :: L, 0, r, c, h, hr => by
    simp at h
    subst h
    rw [List.flatMap_cons, Nat.zero_mul, Nat.zero_add, List.getElem?_append_left (by simpa [hval] using hr)]
  | d :: L, i + 1, r, c, h, hr => by
    have ih := hflat_at L i r c (by simpa using h) hr
    have l4 : (hval d).length = 2 := rfl
    rw [List.flatMap_cons, List.getElem?_append_right (by rw [l4]; omega), l4, show (i + 1) * 2 + r - 2 = i * 2 + r by omega, ih]
/-- A slice of held bytes of one's own. -/
def OwnH (w : World) (B : Nat) (D : Option Addr) (d : Nat) (L : HB) : Prop := w.ownsRow B 66 2 (.slice D L.length d) L.length (L.flatMap hval)
/-- The reference's joint at block h. -/
structure RJ (w : World) (B h : Nat) (N R : Int) (A : Option Addr) (c : Nat) (got : List UInt8) (D : Option Addr) (d : Nat) (L : HB) : Prop where
  blk : Blk w h 51 #[.int .u32 N, .int .i64 R, .slice A got.length c, .slice D L.length d]
  got : Own w 0 A c got
  held : OwnH w B D d L
  base : B ≤ h
/-- The blocks that it writes. -/
def RF (h : Nat) (D : Option Addr) (n d : Nat) : Nat → Prop := fun k => k = h ∨ (Value.slice D n d).ownBlock = some k
section
variable {w w' : World} {B h c d : Nat} {N R : Int} {A D : Option Addr} {got : List UInt8} {L : HB}
theorem OwnH.keep (o : OwnH w B D d L) (hb : Below w.heap.size w w') : OwnH w' B D d L :=
  World.ownsRow.kept (row := none) o ⟨hb.os, hb.tape, hb.output, hb.size, fun k hk _ => hb.block k hk⟩ (by
    cases hv : (Value.slice D L.length d).ownBlock with
    | none => exact .inl rfl
    | some g => exact .inr (by simp))
theorem OwnH.form (o : OwnH w B D d L) (hp : 0 < L.length) : ∃ r, D = some ⟨r, 0, none⟩ ∧ B ≤ r ∧ r < w.heap.size := by
  rcases o.2 with ⟨_, h0⟩ | ⟨r, cap, cur, hv, hb, hg, _⟩
  · omega
  · injection hv with h1
    exact ⟨r, h1, hb, (Array.getElem?_eq_some_iff.1 hg).1⟩
theorem OwnH.cell {r : Nat} (o : OwnH w B (some ⟨r, 0, none⟩) d L) (i k : Nat) (x : Nat × UInt8) (hx : L[i]? = some x) (hk : k < 2) : w.cell? ⟨r, i * 2 + k, none⟩ = (hval x)[k]? := by
  have hi : i < L.length := (List.getElem?_eq_some_iff.1 hx).1
  rw [World.ownsRow.cellAt o (i * 2 + k) (by omega), hflat_at L i k x hx hk]
theorem OwnH.row (o : OwnH w B D d L) : D = none ∨ ∃ r cur, D = some ⟨r, 0, none⟩ ∧ B ≤ r ∧ w.heap[r]? = some (.cells cur 66 (0, 0)) := by
  rcases o.2 with ⟨h1, h0⟩ | ⟨r, cap, cur, hv, hb, hg, _⟩
  · injection h1 with h1
    exact .inl h1
  · injection hv with h1
    exact .inr ⟨r, cur, h1, hb, hg⟩
theorem OwnH.snoc {x : Nat × UInt8} {v : Value} (o : w.ownsRow B 66 2 v (L.length + 1) (L.flatMap hval ++ [.int .i64 (x.1 : Int), .int .u8 (x.2.toNat : Int)])) : w.ownsRow B 66 2 v (L ++ [x]).length ((L ++ [x]).flatMap hval) := by
  rw [List.length_append, List.flatMap_append]
  simpa [hval] using o
theorem RJ.lt (r : RJ w B h N R A c got D d L) : h < w.heap.size := r.blk.lt
theorem RJ.below (r : RJ w B h N R A c got D d L) (hb : Below w.heap.size w w') : RJ w' B h N R A c got D d L := ⟨r.blk.keep (hb.block h r.lt), r.got.keep hb, r.held.keep hb, r.base⟩
/-- A row of them is in no block of another type. -/
theorem OwnH.ne {k : Nat} {t : TypeId} {cs : Array Value} {fr : Nat × Nat} (o : OwnH w B D d L) (hk : w.heap[k]? = some (.cells cs t fr)) (ht : t ≠ 66) {n : Nat} : (Value.slice D n d).ownBlock ≠ some k := by
  rcases o.row with rfl | ⟨r, cur, rfl, _, hr⟩
  · simp [Value.ownBlock]
  · intro he
    simp [Value.ownBlock] at he
    subst he
    rw [hr] at hk
    injection hk with hk
    injection hk with _ h2
    exact ht h2.symm
theorem RJ.Dh (r : RJ w B h N R A c got D d L) {n : Nat} : (Value.slice D n d).ownBlock ≠ some h := r.held.ne r.blk (by decide)
theorem RJ.RFB (r : RJ w B h N R A c got D d L) : ∀ k, RF h D L.length d k → B ≤ k := by
  rintro k (rfl | hk)
  · exact r.base
  · rcases r.held.row with rfl | ⟨q, cur, rfl, hb, _⟩
    · simp [Value.ownBlock] at hk
    · simp [Value.ownBlock] at hk; omega
theorem RJ.Bsz (r : RJ w B h N R A c got D d L) : B ≤ w.heap.size := by have := r.base; have := r.lt; omega
end

theorem info_hb : (Try.prog.info? 66).map (fun i => (i.zero, i.size, i.bytes)) = some (some (.agg #[.int .i64 0, .int .u8 0]), 2, 16) := by kernel_rfl

theorem rjnew_any (N R : Int) (w : World) (h0 : 1 ≤ R) (h1 : R ≤ 65535) :
    Calls Try.prog 16 #[.int .u32 N, .int .i64 R] w fun e w' => e = .returned (.tuple #[.pointer (some ⟨w.heap.size, 0, none⟩), .int .i64 0]) ∧ RJ w' w.heap.size w.heap.size N R none 0 [] none 0 [] ∧ Below w.heap.size w w' := by
  have hm : RJ (w.alloc (.cells #[.int .u32 N, .int .i64 R, .slice none 0 0, .slice none 0 0] 51)) w.heap.size w.heap.size N R none 0 [] none 0 [] := ⟨blk_new w _ _, World.ownsRow_nil _ _ _ _, World.ownsRow_nil _ _ _ _, Nat.le_refl _⟩
  have HM := Lib.hid hm
  clear hm
  go_enter Try.func16, Try.ntmps16
  go_wp2
  go_ret2
  exact ⟨rfl, HM.out, (Below.refl _ _).alloc (Nat.le_refl _) _⟩
theorem rjnew_bad (N R : Int) (w : World) (h : R < 1 ∨ 65535 < R) :
    Calls Try.prog 16 #[.int .u32 N, .int .i64 R] w fun e w' => e = .returned (.tuple #[.pointer none, .int .i64 2]) ∧ w = w' := by
  rcases h with h | h
  · go_enter Try.func16, Try.ntmps16
    go_wp2
    go_ret2
    exact ⟨rfl, rfl⟩
  · have h' : ¬ R < 1 := by omega
    go_enter Try.func16, Try.ntmps16
    go_wp2
    go_ret2
    exact ⟨rfl, rfl⟩

section
variable {w w' : World} {B h c d : Nat} {N R : Int} {A D : Option Addr} {got : List UInt8} {L : HB}
theorem rjwindow_any (r : RJ w B h N R A c got D d L) (r1 : R ≤ 65535) (r0 : got.length ≤ R) :
    Calls Try.prog 20 #[.pointer (some ⟨h, 0, none⟩)] w fun e w' => e = .returned (.int .i64 (R - got.length)) ∧ Drawn w w' := by
  have c1 : w.cell? ⟨h, 1, none⟩ = some (.int .i64 R) := r.blk.cell 1
  have c2 : w.cell? ⟨h, 2, none⟩ = some (.slice A got.length c) := r.blk.cell 2
  go_enter Try.func20, Try.ntmps20
  go_wp2_with fail
  go_quiet (fail)
  go_wp2_with fail
  go_ret
  exact ⟨rfl, ⟨_, rfl⟩⟩

def HasR (o : Nat) (L : HB) (w : World) (e : Ending) (w' : World) : Prop :=
  e = .returned (.tuple #[.int .u8 (((hlook o L).getD 0).toNat : Int), .bool (hlook o L).isSome]) ∧ w = w'
set_option maxHeartbeats 1000000 in
set_option maxRecDepth 100000 in
theorem rjhas_any (r : RJ w B h N R A c got D d L) (o : Nat) (hl : L.length ≤ 1000000) :
    Calls Try.prog 31 #[.pointer (some ⟨h, 0, none⟩), .int .i64 (o : Int)] w (HasR o L w) := by
  have c3 : w.cell? ⟨h, 3, none⟩ = some (.slice D L.length d) := r.blk.cell 3
  have HR := Lib.hid r
  have HLL := Lib.hid hl
  clear r hl
  go_enter Try.func31, Try.ntmps31
  go_wp2_with fail
  go_loop [6] (fun i => ∃ n : Nat, n ≤ L.length ∧ i = .int .i64 n ∧ hlook o L = hlook o (L.drop n)) (fun i => L.length - (intOf i).toNat)
  case atStart => exact ⟨0, by omega, rfl, rfl⟩
  case round =>
    obtain ⟨n, hn, rfl, hq⟩ := hrel
    have HQ := Lib.hid hq
    clear hq
    have hl := HLL.out
    by_cases hlt : n < L.length
    · obtain ⟨q, rfl, hq1, hq2⟩ := HR.out.held.form (by omega)
      obtain ⟨x, hx⟩ : ∃ x, L[n]? = some x := ⟨_, List.getElem?_eq_getElem hlt⟩
      have d0 := HR.out.held.cell n 0 x hx (by omega)
      have d1 := HR.out.held.cell n 1 x hx (by omega)
      simp only [hval, List.getElem?_cons_zero, List.getElem?_cons_succ, Nat.add_zero] at d0 d1
      have hdr : L.drop n = x :: L.drop (n + 1) := by
        rw [List.drop_eq_getElem_cons hlt]
        rw [List.getElem?_eq_getElem hlt] at hx
        injection hx with hx
        rw [hx]
      have hlt' : (n : Int) < (L.length : Int) := by omega
      have HN : Hid (L.length - (n + 1) < L.length - n) := by show _ < _; omega
      have HK : Hid (hlook o L = if x.1 = o then some x.2 else hlook o (L.drop (n + 1))) := by show _ = _; rw [HQ.out, hdr]; rfl
      obtain ⟨LL, HL⟩ : ∃ z, Hid (L.length = z) := ⟨_, rfl⟩
      rw [HL.out] at hn hl hlt hlt' c3 HN ⊢
      clear hx hdr hq1 hq2
      cases he : ((x.1 : Int) == (o : Int))
      · have Y : Hid (hlook o L = hlook o (L.drop (n + 1))) := by
          show _ = _
          rw [HK.out, if_neg (fun e => by rw [e] at he; simp at he)]
        go_wp2_with fail
        go_round
        case rel => exact ⟨n + 1, by omega, by go_num, Y.out⟩
        case measure => simp [intOf]; exact HN.out
      · have Y : Hid (hlook o L = some x.2) := by
          show _ = _
          rw [HK.out, if_pos (by have : (x.1 : Int) = o := by simpa using he
                                 omega)]
        go_wp2_with fail
        go_ret2
        exact ⟨by rw [Y.out]; rfl, rfl⟩
    · have e : n = L.length := by omega
      subst e
      rw [List.drop_length] at HQ
      go_wp2_with fail
      go_ret2
      exact ⟨by rw [HQ.out]; rfl, rfl⟩
end
end Go.Proofs.Ytfijbbhoemdhbaa
