/-
  The walk of the reference's Sum.
-/
import Derived.Test.YtphicjokogljcaaRefTally1
namespace Go.Proofs.Ytphicjokogljcaa
open Go.RowKit
set_option linter.unusedVariables false

theorem rsum_take (p k : Int) (L : List Cnt) (i : Nat) (x : Cnt) (hx : L[i]? = some x) : rsum p k (L.take (i + 1)) = if hits p k x then ((rsum p k (L.take i)).1 + x.i, (rsum p k (L.take i)).2 + x.o) else rsum p k (L.take i) := by
  rw [List.take_add_one, hx]
  exact rsum_snoc p k _ x
/-- The counts are few, and small. -/
def FewC (L : List Cnt) : Prop := L.length ≤ 60 ∧ ∀ c ∈ L, c.i ≤ 4294967296 ∧ c.o ≤ 4294967296
theorem FewC.sum {L : List Cnt} (h : FewC L) (p k : Int) (i : Nat) : (rsum p k (L.take i)).1 ≤ 257698037760 ∧ (rsum p k (L.take i)).2 ≤ 257698037760 := by
  have := rsum_le p k 4294967296 (L.take i) (fun c hc => h.2 c (List.mem_of_mem_take hc))
  have h2 : (L.take i).length ≤ 60 := by rw [List.length_take]; have := h.1; omega
  omega

set_option maxHeartbeats 8000000 in
set_option maxRecDepth 100000 in
theorem rsum_any (B g c : Nat) (N : Int) (A : Option Addr) (L : List Cnt) (p k : Int) (w : World) (h : RefT w B g N A c L) (hf : FewC L) :
    Calls Try.prog 17 #[.pointer (some ⟨g, 0, none⟩), .int .i64 p, .int .i64 k] w fun e w' => e = .returned (.tuple #[.int .i64 (rsum p k L).1, .int .i64 (rsum p k L).2]) ∧ Below w.heap.size w w' := by
  have H := Lib.hid h
  have HF := Lib.hid hf
  clear h hf
  go_enter Try.func17, Try.ntmps17
  go_wp2_with fail
  go_loopw [8, 9, 10] (fun a b i wr => ∃ n : Nat, n ≤ L.length ∧ i = .int .i64 n ∧ a = .int .i64 (rsum p k (L.take n)).1 ∧ b = .int .i64 (rsum p k (L.take n)).2 ∧ Below w.heap.size w wr) (fun _ _ i _ => L.length - (intOf i).toNat)
  case atStart => exact ⟨0, by omega, rfl, by simp [rsum], by simp [rsum], Below.refl _ _⟩
  case round =>
    obtain ⟨n, hn, rfl, rfl, rfl, hb⟩ := hrel
    have hr := H.out.below hb
    have c1 := hr.blk.cell 1
    simp only [List.getElem?_toArray] at c1
    have hl60 := HF.out.1
    have hbd := HF.out.sum p k n
    obtain ⟨a, EA⟩ : ∃ z, Hid ((rsum p k (L.take n)).1 = z) := ⟨_, rfl⟩
    obtain ⟨b, EB⟩ : ∃ z, Hid ((rsum p k (L.take n)).2 = z) := ⟨_, rfl⟩
    rw [EA.out, EB.out] at hbd
    rw [EA.out, EB.out]
    have HR := Lib.hid hr
    have HB := Lib.hid hb
    by_cases hlt : n < L.length
    · obtain ⟨r, rfl, hr1, hr2⟩ := hr.own.form (by omega)
      obtain ⟨x, hx⟩ : ∃ x, L[n]? = some x := ⟨_, List.getElem?_eq_getElem hlt⟩
      have hxm : x ∈ L := List.mem_of_getElem? hx
      have hxb := HF.out.2 x hxm
      have d0 := hr.own.cell n 0 x hx (by omega)
      have d1 := hr.own.cell n 1 x hx (by omega)
      have d2 := hr.own.cell n 2 x hx (by omega)
      have d3 := hr.own.cell n 3 x hx (by omega)
      simp only [cval, List.getElem?_cons_zero, List.getElem?_cons_succ, Nat.add_zero] at d0 d1 d2 d3
      have w1 : wrap64 ((a : Int) + (x.i : Int)) = ((a + x.i : Nat) : Int) := by rw [IntWalk.wrap64_in _ (by omega)]; omega
      have w2 : wrap64 ((b : Int) + (x.o : Int)) = ((b + x.o : Nat) : Int) := by rw [IntWalk.wrap64_in _ (by omega)]; omega
      have hT := rsum_take p k L n x hx
      rw [EA.out, EB.out] at hT
      have HT := Lib.hid hT
      have hlt' : (n : Int) < (L.length : Int) := by omega
      have HN : Hid (L.length - (n + 1) < L.length - n) := by show _ < _; omega
      clear hx hxm hxb hT hbd hr hb hr1 hr2
      have yes : hits p k x → Hid (a + x.i = (rsum p k (L.take (n + 1))).1 ∧ b + x.o = (rsum p k (L.take (n + 1))).2) := fun hh => by
        show _ ∧ _
        rw [HT.out, if_pos hh]
        exact ⟨rfl, rfl⟩
      have no : ¬ hits p k x → Hid (a = (rsum p k (L.take (n + 1))).1 ∧ b = (rsum p k (L.take (n + 1))).2) := fun hh => by
        show _ ∧ _
        rw [HT.out, if_neg hh, EA.out, EB.out]
        exact ⟨rfl, rfl⟩
      have YES := Lib.hid yes
      have NO := Lib.hid no
      clear yes no
      obtain ⟨LL, HL⟩ : ∃ z, Hid (L.length = z) := ⟨_, rfl⟩
      rw [HL.out] at hn hl60 hlt hlt' c1 HN ⊢
      by_cases hp : p < 0
      · by_cases hk : k < 0
        · have Y := YES.out ⟨.inl hp, .inl hk⟩
          go_wp2_with fail
          go_region
          go_wp2_with fail
          go_roundw
          case rel => exact ⟨n + 1, by omega, by go_num, by rw [w1, Y.out.1], by rw [w2, Y.out.2], HB.out.drew⟩
          case measure => simp [intOf]; exact HN.out
        cases hk2 : ((x.k : Int) == k)
        · have Y := NO.out (fun hh => by rcases hh.2 with h1 | h1; exact hk h1; rw [h1] at hk2; simp at hk2)
          go_wp2_with fail
          go_roundw
          case rel => exact ⟨n + 1, by omega, by go_num, by rw [← Y.out.1], by rw [← Y.out.2], by with_reducible exact HB.out⟩
          case measure => simp [intOf]; exact HN.out
        · have Y := YES.out ⟨.inl hp, .inr (by simpa using hk2)⟩
          go_wp2_with fail
          go_region
          go_wp2_with fail
          go_roundw
          case rel => exact ⟨n + 1, by omega, by go_num, by rw [w1, Y.out.1], by rw [w2, Y.out.2], HB.out.drew⟩
          case measure => simp [intOf]; exact HN.out
      cases hp2 : ((x.p : Int) == p)
      · have Y := NO.out (fun hh => by rcases hh.1 with h1 | h1; exact hp h1; rw [h1] at hp2; simp at hp2)
        go_wp2_with fail
        go_roundw
        case rel => exact ⟨n + 1, by omega, by go_num, by rw [← Y.out.1], by rw [← Y.out.2], by with_reducible exact HB.out⟩
        case measure => simp [intOf]; exact HN.out
      · by_cases hk : k < 0
        · have Y := YES.out ⟨.inr (by simpa using hp2), .inl hk⟩
          go_wp2_with fail
          go_region
          go_wp2_with fail
          go_roundw
          case rel => exact ⟨n + 1, by omega, by go_num, by rw [w1, Y.out.1], by rw [w2, Y.out.2], HB.out.drew⟩
          case measure => simp [intOf]; exact HN.out
        cases hk2 : ((x.k : Int) == k)
        · have Y := NO.out (fun hh => by rcases hh.2 with h1 | h1; exact hk h1; rw [h1] at hk2; simp at hk2)
          go_wp2_with fail
          go_roundw
          case rel => exact ⟨n + 1, by omega, by go_num, by rw [← Y.out.1], by rw [← Y.out.2], by with_reducible exact HB.out⟩
          case measure => simp [intOf]; exact HN.out
        · have Y := YES.out ⟨.inr (by simpa using hp2), .inr (by simpa using hk2)⟩
          go_wp2_with fail
          go_region
          go_wp2_with fail
          go_roundw
          case rel => exact ⟨n + 1, by omega, by go_num, by rw [w1, Y.out.1], by rw [w2, Y.out.2], HB.out.drew⟩
          case measure => simp [intOf]; exact HN.out
    · have e : n = L.length := by omega
      subst e
      rw [List.take_length] at EA EB
      go_wp2_with fail
      go_ret2
      exact ⟨by rw [EA.out, EB.out]; rfl, HB.out⟩
end Go.Proofs.Ytphicjokogljcaa
