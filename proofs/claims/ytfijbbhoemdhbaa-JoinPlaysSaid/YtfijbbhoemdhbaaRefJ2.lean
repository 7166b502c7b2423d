/-
  What the reference's joint is behind an append.
-/
import Derived.Test.YtfijbbhoemdhbaaRefJ1
namespace Go.Proofs.Ytfijbbhoemdhbaa
open Go.RowKit
set_option linter.unusedVariables false

section
variable {w w1 w2 W : World} {B h c d q cap : Nat} {N R : Int} {A D : Option Addr} {got : List UInt8} {L : HB} {x : Nat × UInt8}
theorem drawn_frame {F : Nat → Prop} (hd : Drawn w w2) : Frame F w w2 := by
  obtain ⟨n, rfl⟩ := hd
  exact (Frame.refl F w).drewN n
/-- Behind 'j.Held = append(j.Held, x)'. -/
theorem RJ.app (r : RJ w1 B h N R A c got D d L) (ob : Obj) (hd : Drawn (w1.alloc ob) W)
    (o : w2.ownsRow B 66 2 (.slice (some ⟨q, 0, none⟩) (L.length + 1) cap) (L.length + 1) (L.flatMap hval ++ [.int .i64 (x.1 : Int), .int .u8 (x.2.toNat : Int)]))
    (hg : W.grownBy w2 (Value.slice D L.length d).ownBlock) (hat : (Value.slice D L.length d).ownBlock = some q ∨ q = w1.heap.size + 1) :
    w2.frozen? ⟨h, 3, none⟩ = false ∧ w2.cell? ⟨h, 3, none⟩ = some (.slice D L.length d) ∧
    RJ (w2.setCell ⟨h, 3, none⟩ (.slice (some ⟨q, 0, none⟩) (L.length + 1) cap)) B h N R A c got (some ⟨q, 0, none⟩) cap (L ++ [x]) ∧
    Frame (RF h D L.length d) w1 (w2.setCell ⟨h, 3, none⟩ (.slice (some ⟨q, 0, none⟩) (L.length + 1) cap)) ∧
    (∀ k, RF h (some ⟨q, 0, none⟩) (L ++ [x]).length cap k → RF h D L.length d k ∨ w1.heap.size ≤ k) := by
  have hb1 : Below w1.heap.size w1 W := by
    obtain ⟨n, rfl⟩ := hd
    exact below_drewN ((Below.refl _ _).alloc (Nat.le_refl _) ob) n
  have r1 := r.below hb1
  have hs1 := hb1.size
  have hl1 := r1.lt
  have hbk : w2.heap[h]? = W.heap[h]? := hg.block h r1.lt (fun e => r1.Dh e.symm)
  have hB2 : Blk w2 h 51 #[.int .u32 N, .int .i64 R, .slice A got.length c, .slice D L.length d] := hbk.trans r1.blk
  have hgot : Own w2 0 A c got := by
    refine World.ownsRow.kept r1.got hg ?_
    rcases r1.got.2 with ⟨hv', _⟩ | ⟨g', cp, cur, hv', _, hh, _⟩
    · left; rw [hv']; rfl
    · right
      rw [hv']
      intro e
      exact r1.held.ne hh (by decide) (n := L.length) (e.symm.trans (by simp [Value.ownBlock]))
  have hne : h ≠ q := by
    rcases hat with h1 | h1
    · exact fun e => r.Dh (by rw [h1, e])
    · have := r.lt; omega
  have hgh : (Value.slice A got.length c).ownBlock ≠ some h := by
    intro e
    rcases hgot.2 with ⟨hv', _⟩ | ⟨g', cp, cur, hv', _, hh, _⟩
    · rw [hv'] at e; simp [Value.ownBlock] at e
    · rw [hv'] at e
      have e' : g' = h := by simpa [Value.ownBlock] using e
      subst e'
      exact Blk.ne (t := 5) hh hB2 (by decide) rfl
  have hq := OwnH.snoc o
  have hln : (L ++ [x]).length = L.length + 1 := by simp
  refine ⟨hB2.free 3, hB2.cell 3, ⟨?_, ?_, ?_, r.base⟩, ?_, ?_⟩
  · rw [hln]; exact hB2.set 3 _
  · exact own_set_far hgot (p := ⟨h, 3, none⟩) hgh _
  · unfold OwnH
    rw [← hln] at hq
    refine World.ownsRow.kept (row := some h) hq ⟨rfl, rfl, rfl, by simp [World.setCell], fun k _ hk => Below.heap_setCell w2 ⟨h, 3, none⟩ _ k (fun e => hk (by rw [e]))⟩ (.inr ?_)
    simp [Value.ownBlock]
    omega
  · refine Frame.set ?_ (p := ⟨h, 3, none⟩) (.inl rfl) _
    refine Frame.grown (Frame.of_below hb1) hg (fun k hk => .inl (.inr hk))
  · rintro k (rfl | hk)
    · exact .inl (.inl rfl)
    · simp [Value.ownBlock] at hk
      subst hk
      rcases hat with h1 | h1
      · exact .inl (.inr h1)
      · right; omega
theorem RJ.drawn (r : RJ w B h N R A c got D d L) (hd : Drawn w w2) : RJ w2 B h N R A c got D d L := r.below (hd.below _)
end
theorem app_n {ops : Array Oper} {rest : List Oper} {o : Oper} {a : Act} {Q : Exit → Act → World → Prop} (w : World) (hgd : o.guard = none) (s x : Operand)
    (ho : o.op = .call { callee := .builtin .append, args := #[s, x], argTypes := #[23, 23] })
    (B : Nat) (A : Option Addr) (c : Nat) (xs : List UInt8) (n : Nat) (hn : xs.length = n) (hs : a.eval s = .slice A n c) (hown : Own w B A c xs)
    (A' : Option Addr) (c' : Nat) (ys : List UInt8) (m : Nat) (hm : ys.length = m) (hx : a.eval x = .slice A' m c') (hsl : Sl w A' c' ys)
    (hl : xs.length + ys.length ≤ 140737488355328) (hB : B ≤ w.heap.size)
    (h : ∀ A2 c2 w', Own w' B A2 c2 (xs ++ ys) → w.grownBy w' (Value.slice A xs.length c).ownBlock → wpList Try.prog ops Q rest (a.put o.dst (.slice A2 (n + m) c2)) w') : wpList Try.prog ops Q (o :: rest) a w := by
  subst hn hm
  exact app_bytes w hgd s x ho B A c xs hs hown A' c' ys hx hsl hl hB h
theorem info_parts' {t : TypeId} {z : Value} {s b : Nat} (h : (Try.prog.info? t).map (fun i => (i.zero, i.size, i.bytes)) = some (some z, s, b)) : ∃ i, Try.prog.info? t = some i ∧ i.zero = some z ∧ i.size = s ∧ i.bytes = b := by
  cases hi : Try.prog.info? t with
  | none => rw [hi] at h; simp at h
  | some i => rw [hi] at h; simp at h; exact ⟨i, rfl, h.1, h.2.1, h.2.2⟩
theorem rstep_len (N f : Int) (W : Nat) (h : HB) (i : Nat) (x : UInt8) : (rstep N f W h i x).length ≤ h.length + 1 := by
  unfold rstep rhold
  split
  · split <;> simp
  · omega
theorem raddN_take (N f : Int) (W : Nat) (L : HB) (bs : List UInt8) (k : Nat) (hk : k < bs.length) : raddN N f W L 0 (bs.take (k + 1)) = rstep N f W (raddN N f W L 0 (bs.take k)) k (bs.getD k 0) := by
  rw [List.take_add_one, List.getElem?_eq_getElem hk]
  simp only [Option.toList_some]
  rw [raddN_snoc, List.length_take, show min k bs.length = k by omega, Nat.zero_add]
  congr 1
  simp [List.getD_eq_getElem?_getD, List.getElem?_eq_getElem hk]
theorem raddN_take_len (N f : Int) (W : Nat) (L : HB) (bs : List UInt8) : ∀ k, (raddN N f W L 0 (bs.take k)).length ≤ L.length + k
  | 0 => by simp [raddN]
  | k + 1 => by
    have ih := raddN_take_len N f W L bs k
    by_cases hk : k < bs.length
    · rw [raddN_take N f W L bs k hk]
      exact Nat.le_trans (rstep_len _ _ _ _ _ _) (by omega)
    · rw [List.take_of_length_le (by omega)] at ih ⊢
      omega
/-- What is handed on. -/
def rtake (L : HB) (k : Nat) : List UInt8 := (List.range k).map fun j => (hlook j L).getD 0
theorem rtake_succ (L : HB) (k : Nat) : rtake L (k + 1) = rtake L k ++ [(hlook k L).getD 0] := by
  unfold rtake
  rw [List.range_succ, List.map_append]
  rfl
theorem rtake_len (L : HB) (k : Nat) : (rtake L k).length = k := by simp [rtake]
theorem runS_take {s : JS} {h : HB} (r : Rel s h) (i : Inv s) : ∀ (k : Nat) (_ : ∀ j, j < k → now (runS j s) = true), (runS k s).ready = s.ready ++ rtake h k
  | 0, _ => by show s.ready = _; simp [rtake]
  | k + 1, hn => by
    rw [runS_got, runS_take r i k (fun j hj => hn j (by omega)), rtake_succ, run_look r i k (fun j hj => hn j (by omega)), if_pos (hn k (by omega)), List.append_assoc]
    rfl
theorem rdrop_take (n : Nat) (L : HB) (k : Nat) (x : Nat × UInt8) (hx : L[k]? = some x) : rdrop n (L.take (k + 1)) = if n ≤ x.1 then rdrop n (L.take k) ++ [(x.1 - n, x.2)] else rdrop n (L.take k) := by
  unfold rdrop
  rw [List.take_add_one, hx]
  simp only [Option.toList_some]
  rw [List.filter_append, List.map_append]
  by_cases h : n ≤ x.1 <;> simp [h]
theorem rdrop_take_len (n : Nat) (L : HB) (k : Nat) : (rdrop n (L.take k)).length ≤ L.length := by
  unfold rdrop
  rw [List.length_map]
  refine Nat.le_trans (List.length_filter_le _ _) ?_
  rw [List.length_take]
  omega
end Go.Proofs.Ytfijbbhoemdhbaa
