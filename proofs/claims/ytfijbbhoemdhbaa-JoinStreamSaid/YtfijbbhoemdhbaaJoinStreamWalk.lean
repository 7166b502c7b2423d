/-
  The walk of the law JoinStream.
-/
import Derived.Test.YtfijbbhoemdhbaaPlainStream
import Derived.Test.YtfijbbhoemdhbaaPieces
namespace Go.Proofs.Ytfijbbhoemdhbaa
open Go.RowKit

/-- A joint, and what was read of it, apart. -/
structure SIn (B : Nat) (w0 w : World) (g R T : Nat) (A : Option Addr) (c : Nat) (s : JS) (D : Option Addr) (d : Nat) (got : List UInt8) : Prop where
  j : JIn B w0 w g R T A c s
  own : Own w B D d got
  apart : ∀ k, (Value.slice D got.length d).ownBlock = some k → ¬ JF g R T A k

theorem own_keep {B : Nat} {w w' : World} {D : Option Addr} {d : Nat} {got : List UInt8} (h : Own w B D d got) (hk : ∀ k, k < w.heap.size → (Value.slice D got.length d).ownBlock = some k → w'.heap[k]? = w.heap[k]?) : Own w' B D d got := by
  refine ⟨h.1, ?_⟩
  rcases h.2 with h2 | ⟨g', cap, cur, hv, hb, hh, r⟩
  · exact .inl h2
  · refine .inr ⟨g', cap, cur, hv, hb, ?_, r⟩
    rw [hk g' (Array.getElem?_eq_some_iff.1 hh).1 (by rw [hv]; simp [Value.ownBlock])]
    exact hh
section
variable {B : Nat} {w0 w w' : World} {g R T : Nat} {A : Option Addr} {c : Nat} {s : JS} {D : Option Addr} {d : Nat} {got : List UInt8}
theorem SIn.below (h : SIn B w0 w g R T A c s D d got) (hb : Below w.heap.size w w') : SIn B w0 w' g R T A c s D d got := ⟨h.j.below hb, h.own.keep hb, h.apart⟩
theorem SIn.framed (h : SIn B w0 w g R T A c s D d got) {A' : Option Addr} {c' : Nat} {s' : JS} (hj : JIn B w0 w' g R T A' c' s') (hf : Frame (JF g R T A) w w') (hn : ∀ i, JF g R T A' i → JF g R T A i ∨ w.heap.size ≤ i) : SIn B w0 w' g R T A' c' s' D d got :=
  ⟨hj, own_keep h.own (fun k hk ho => hf.block k hk (h.apart k ho)), fun k hk hf' => by
    rcases hn k hf' with h1 | h1
    · exact h.apart k hk h1
    · have := (ownBlock_lt h.own k hk).2; omega⟩
theorem SIn.grow (h : SIn B w0 w g R T A c s D d got) {D2 : Option Addr} {d2 : Nat} {got2 : List UInt8} (ho : Own w' B D2 d2 got2) (hg : w.grownBy w' (Value.slice D got.length d).ownBlock)
    (hat : (Value.slice D2 got2.length d2).ownBlock = (Value.slice D got.length d).ownBlock ∨ (Value.slice D2 got2.length d2).ownBlock = some w.heap.size) : SIn B w0 w' g R T A c s D2 d2 got2 := by
  refine ⟨⟨h.j.at_.keep (fun k hk hf => hg.block k hk (fun e => h.apart k e.symm hf)), h.j.bel.grown hg h.j.sz (fun k hk => (ownBlock_lt h.own k hk).1), h.j.big, Nat.le_trans h.j.sz hg.size⟩, ho, ?_⟩
  intro k hk hf
  rcases hat with e | e
  · exact h.apart k (by rw [← e]; exact hk) hf
  · rw [e] at hk
    injection hk with hk
    have := h.j.at_.jf_lt k hf
    omega
end

theorem same_n (A : Option Addr) (xs : List UInt8) (n c : Nat) (B : Option Addr) (ys : List UInt8) (m d : Nat) (w : World) (hn : xs.length = n) (hm : ys.length = m) (hx : Bs w A xs) (hy : Bs w B ys) :
    Calls Try.prog 14 #[.slice A n c, .slice B m d] w fun e w' => e = .returned (.bool (decide (xs = ys))) ∧ w = w' := by
  subst hn hm
  exact same_any A xs c B ys d w hx hy

set_option maxHeartbeats 4000000 in
set_option maxRecDepth 100000 in
theorem joinStream_walk (next room : Int) (a : Option Addr) (bs : List UInt8) (c : Nat) (pa : Option Addr) (pl pc : Nat) (ra : Option Addr) (rl rc : Nat) (w : World) (n0 : 0 ≤ next) (n1 : next < 4294967296) (hs : Sl w a c bs)
    (hp : Pieces w pa pl) (hpl : pl ≤ 9223372036854775807) (hr : Nums w ra rl) (hrl : rl ≤ 9223372036854775807) :
    Calls Try.prog 3 #[.int .u32 next, .int .i64 room, .slice a bs.length c, .slice pa pl pc, .slice ra rl rc] w fun e w' => e = .returned (.bool true) ∧ Below w.heap.size w w' := by
  have HP := Lib.hid hp
  have HR := Lib.hid hr
  have HS := Lib.hid (hs.take 300)
  have l1 := hs.2.1
  have l2 := hs.2.2.1
  have hml : Hid ((bs.take 300).length = min bs.length 300) := by show _ = _; simp [Nat.min_comm]
  obtain ⟨m, em, em2, em3, em4⟩ : ∃ m : Nat, Hid (m = min bs.length 300) ∧ (if (300 : Int) < (bs.length : Int) then 300 else (bs.length : Int)) = (m : Int) ∧ m ≤ c ∧ (m : Int) ≤ 300 := ⟨_, rfl, by split <;> omega, by omega, by omega⟩
  have EM : Hid ((bs.take 300).length = m) := by show _ = _; rw [hml.out, em.out]
  clear hp hr hs hml
  go_enter Try.func3, Try.ntmps3
  go_wp2_with fail
  refine (works_any _).mono ?_
  rintro e w1 ⟨rfl, hb⟩
  go_wp2_with fail
  refine (among_any room 400 _ (by omega) (by omega)).mono ?_
  rintro e w2 ⟨rfl, rfl⟩
  have hm := among_bd room 400 (by omega)
  generalize among room 400 = rm at hm ⊢
  clear em2 em l1
  generalize bs.take 300 = st at *
  go_wp2_with fail
  obtain ⟨rn, rfl⟩ := Int.eq_ofNat_of_zero_le hm.1
  have e1 : (1 : Int) + rn = ((1 + rn : Nat) : Int) := by omega
  rw [e1]
  refine (jnew_any next (1 + rn) _ n0 n1 (by omega) (by omega)).mono ?_
  rintro e w2 ⟨g, R, T, rfl, hj, hb2, h1, h2, h3⟩
  have hi := JIn.of_new hb hb.size hj hb2 h1 h2 h3
  have EN : Hid (((next.toNat : Nat) : Int) = next) := by show _ = _; omega
  have NN : Hid (next.toNat < 4294967296) := by show _ < _; omega
  have hstr : Str (newS next (1 + rn)) st next.toNat 0 := by
    have := new_str st next.toNat (1 + rn) NN.out (by omega) (by omega)
    rw [EN.out] at this
    exact this
  have hsi : SIn w.heap.size w (w2.alloc (.cells #[] 5)) g R T none 0 (newS next (1 + rn)) (some ⟨w2.heap.size, 0, none⟩) 0 [] :=
    ⟨hi.alloc _, own_nil_made w2 _ hi.sz, fun k hk hf => by
      have e : w2.heap.size = k := by simpa [Value.ownBlock] using hk
      have := hi.at_.jf_lt k hf
      omega⟩
  have HI : Hid (∃ A c s D d p, SIn w.heap.size w (w2.alloc (.cells #[] 5)) g R T A c s D d (st.take p) ∧ Str s st next.toNat p ∧ s.ring.length = 1 + rn ∧ Value.slice (some ⟨w2.heap.size, 0, none⟩) 0 0 = .slice D (st.take p).length d) :=
    ⟨none, 0, _, _, 0, 0, hsi, hstr, by simp [newS], by simp⟩
  clear hj hb hb2 h1 h2 h3 e1 hi hstr hsi
  go_wp2_with fail
  go_loopw [13, 14] (fun gv i wr => ∃ k : Nat, k ≤ 60 ∧ i = .int .i64 k ∧ ∃ A c s D d p, SIn w.heap.size w wr g R T A c s D d (st.take p) ∧ Str s st next.toNat p ∧ s.ring.length = 1 + rn ∧ gv = .slice D (st.take p).length d) (fun _ i _ => 60 - (intOf i).toNat)
  case atStart => exact ⟨0, Nat.zero_le _, rfl, HI.out⟩
  case round =>
    obtain ⟨k, hk, rfl, A, ca, s, D, d, p, hsi, hst, hring, rfl⟩ := hrel
    have hp0 : p ≤ m := by have := hst.le; rw [EM.out] at this; omega
    have EP : Hid ((st.take p).length = p) := by show _ = _; rw [List.length_take, EM.out]; omega
    rw [EP.out]
    by_cases hkl : (k : Int) < pl ∧ (k : Int) < 60
    · obtain ⟨q1, q2⟩ := hkl
      rcases HP.out with h0 | ⟨b, off, rfl, hpc⟩
      · omega
      obtain ⟨x, y, c0, c1⟩ := hpc k (by omega)
      replace c0 := keep_below hsi.j.bel _ _ c0
      replace c1 := keep_below hsi.j.bel _ _ c1
      have HSI := Lib.hid hsi
      have HST := Lib.hid hst
      clear hsi hst hpc
      go_wp2_with fail
      refine (among_any x _ _ (by omega) (by omega)).mono ?_
      rintro e w4 ⟨rfl, rfl⟩
      have hf := among_bd x (m + 1) (by omega)
      generalize among x (m + 1) = F at *
      obtain ⟨F, rfl⟩ := Int.eq_ofNat_of_zero_le hf.1
      go_wp2_with fail
      refine (among_any y _ _ (by omega) (by omega)).mono ?_
      rintro e w4 ⟨rfl, rfl⟩
      have hg := among_bd y ((m : Int) - F + 1) (by omega)
      generalize among y ((m : Int) - F + 1) = E at *
      obtain ⟨E, rfl⟩ := Int.eq_ofNat_of_zero_le hg.1
      obtain ⟨Z, hZ⟩ : ∃ Z, (if c = F then a else Option.map (fun x => x.add F) a) = Z := ⟨_, rfl⟩
      have zz : (F + E : Nat) ≤ c := by omega
      have zz2 : ((F : Int) + E).toNat - F = E := by omega
      -- PART
      go_wp2_with fail
      have SLP : Sl wr Z (c - F) ((st.take (F + E)).drop F) := by
        rw [← hZ]
        exact ((HS.out.below HSI.out.j.bel).take (F + E)).cut F (by rw [List.length_take, EM.out]; omega)
      have LP : Hid (((st.take (F + E)).drop F).length = E) := by show _ = _; rw [List.length_drop, List.length_take, EM.out]; omega
      refine (bytes_n Z ((st.take (F + E)).drop F) E (c - F) wr LP.out SLP (by rw [LP.out]; omega)).mono ?_
      rintro e w4 ⟨X, xc, rfl, hox, hbx⟩
      rw [LP.out]
      have HS4 := HSI.out.below hbx
      have XA : Hid (∀ q, X = some q → 0 < ((st.take (F + E)).drop F).length → ¬ JF g R T A q.block) := by
        intro q eq hp' hf'
        obtain ⟨gg, eg, hB', _⟩ := hox.form hp'
        rw [eg] at eq
        injection eq with eq
        subst eq
        have := HSI.out.j.at_.jf_lt _ hf'
        simp at this
        omega
      have XS := Lib.hid hox.bs
      have HS4' := Lib.hid HS4
      clear HSI HS4 hbx hox SLP hZ zz zz2 c0 c1
      have fb : (F : Int) ≤ 300 := by omega
      go_wp2_with fail
      refine (add_in HS4'.out.j _ (by omega) (by omega) X _ _ _ LP.out XS.out XA.out (by rw [LP.out]; omega)).mono ?_
      rintro e w5 ⟨k2, A2, c2, rfl, hj5, hF5, hn5, t1, t2⟩
      have HSI := Lib.hid (HS4'.out.framed hj5 hF5 hn5)
      have HST' : Hid (Str (runS k2 (addS s ((next + F) % 4294967296) ((st.take (F + E)).drop F))) st next.toNat p) := by
        have := add_str HST.out (by rw [EM.out]; omega) (by rw [hring]; omega) F (F + E) (by omega) (by rw [EM.out]; omega)
        rw [EN.out] at this
        exact run_str k2 _ this t1
      have hring' : (runS k2 (addS s ((next + F) % 4294967296) ((st.take (F + E)).drop F))).ring.length = 1 + rn := by rw [runS_ring, addS_ring]; exact hring
      clear hj5 hF5 hn5 t1 t2 HS4' HST XS XA hring
      generalize runS k2 (addS s ((next + F) % 4294967296) ((st.take (F + E)).drop F)) = s5 at *
      have HST := HST'
      have hring := hring'
      clear HST' hring' EP
      by_cases hrd : (k : Int) < rl
      · rcases HR.out with h0 | ⟨rb, roff, rfl, hrc⟩
        · omega
        obtain ⟨z, cz⟩ := hrc k (by omega)
        replace cz := keep_below HSI.out.j.bel _ _ cz
        go_wp2_with fail
        refine (among_any z 100 _ (by omega) (by omega)).mono ?_
        rintro e w6 ⟨rfl, rfl⟩
        have hz := among_bd z 100 (by omega)
        generalize among z 100 = nz at *
        go_wp2_with fail
        refine (read_in HSI.out.j nz hz.1).mono ?_
        rintro e w6 ⟨A6, c6, D6, d6, rfl, hj6, hs6, hF6, hn6⟩
        have h6 := HSI.out.framed hj6 hF6 hn6
        have hmm : (min nz (s5.ready.length : Int)).toNat ≤ s5.ready.length := by omega
        obtain ⟨hst6, hgot⟩ := read_str HST.out _ hmm
        have hr6 : (readS s5 (min nz (s5.ready.length : Int)).toNat).ring.length = 1 + rn := hring
        generalize (min nz (s5.ready.length : Int)).toNat = mm at *
        have L6 : Hid ((s5.ready.take mm).length = mm) := by show _ = _; rw [List.length_take]; omega
        have hpm := hst6.le
        rw [EM.out] at hpm
        have mb : mm ≤ 70000 := by omega
        rw [L6.out]
        have EP : Hid ((st.take p).length = p) := by show _ = _; rw [List.length_take, EM.out]; omega
        have HO6 := Lib.hid h6.own
        have HS6 := Lib.hid hs6
        have SZ6 := Lib.hid h6.j.sz
        have LL : Hid ((st.take p).length + (s5.ready.take mm).length ≤ 140737488355328) := by show _ ≤ _; rw [EP.out, L6.out]; omega
        have H6 := Lib.hid h6
        have HG := Lib.hid hgot
        have HST6 := Lib.hid hst6
        clear HST hmm hpm HSI hj6 hF6 hn6 hs6 h6 hgot hst6 cz hrc hring
        go_wp2_with (at_builtin; refine app_got _ rfl _ _ rfl w.heap.size D d (st.take p) p EP.out rfl HO6.out D6 d6 (s5.ready.take mm) mm L6.out rfl HS6.out LL.out SZ6.out ?_; intro D7 d7 w7 ho7 hg7 hat7)
        have HSI := Lib.hid (H6.out.grow ho7 hg7 hat7)
        rw [HG.out] at HSI
        have HST := HST6
        have hring := hr6
        clear HO6 HS6 SZ6 LL H6 HG HST6 hr6 ho7 hg7 hat7 L6 EP
        generalize readS s5 mm = s9 at *
        generalize hpe : p + mm = pq at *
        replace hpe := Lib.hid hpe
        have hle := HST.out.le
        have hnx := Lib.hid HST.out.next
        have EP2 : Hid ((st.take pq).length = pq) := by show _ = _; rw [List.length_take]; omega
        have hp1 : pq ≤ c := by have := EM.out; omega
        have BG := Lib.hid (HSI.out.own.bs)
        have BS := Lib.hid ((HS.out.below HSI.out.j.bel).1.take pq)
        rw [EM.out] at hle
        have RB : s9.ready.length ≤ 70000 := by omega
        have RB2 : pq ≤ 70000 := by omega
        obtain ⟨rr, ERR⟩ : ∃ rr, Hid (s9.ready.length = rr) := ⟨_, rfl⟩
        have CR := fun (ww : World) (hh : JAt ww g R T A6 c6 s9) => Lib.hid (ready_any hh)
        rw [ERR.out] at hle hnx RB
        have HQ : ((pq : Int) + rr) ≤ (m : Int) := by omega
        have HQ2 : ((p : Int) + mm + rr) ≤ (m : Int) := by have := hpe.out; omega
        go_wp2_with fail
        refine (ready_any HSI.out.j.at_).mono ?_
        rintro e w9 ⟨rfl, rfl⟩
        rw [ERR.out]
        go_wp2_with fail
        refine (same_n D7 (st.take pq) pq d7 a (st.take pq) pq c _ EP2.out EP2.out BG.out BS.out).mono ?_
        rintro e w9 ⟨rfl, rfl⟩
        rw [decide_eq_true rfl]
        go_wp2_with fail
        refine (next_any HSI.out.j.at_).mono ?_
        rintro e w9 ⟨rfl, rfl⟩
        have NX : Hid (s9.next = (next + (pq + rr)) % 4294967296) := by
          show _ = _
          rw [hnx.out, Int.natCast_add, Int.natCast_add, EN.out]
          omega
        rw [NX.out]
        go_wp2_with fail
        refine (ready_any HSI.out.j.at_).mono ?_
        rintro e w9 ⟨rfl, rfl⟩
        rw [ERR.out]
        go_wp2_with fail
        go_roundw
        case rel => exact ⟨k + 1, by omega, by go_num, A6, c6, s9, D7, d7, pq, HSI.out, HST.out, hring, by rw [EP2.out]⟩
        case measure => simp [intOf]; omega
      · have hle := HST.out.le
        have hnx := Lib.hid HST.out.next
        have EP2 : Hid ((st.take p).length = p) := by show _ = _; rw [List.length_take]; omega
        have hp1 : p ≤ c := by have := EM.out; omega
        have BG := Lib.hid (HSI.out.own.bs)
        have BS := Lib.hid ((HS.out.below HSI.out.j.bel).1.take p)
        rw [EM.out] at hle
        have RB : s5.ready.length ≤ 70000 := by omega
        have RB2 : p ≤ 70000 := by omega
        obtain ⟨rr, ERR⟩ : ∃ rr, Hid (s5.ready.length = rr) := ⟨_, rfl⟩
        have CR := fun (ww : World) (hh : JAt ww g R T A2 c2 s5) => Lib.hid (ready_any hh)
        rw [ERR.out] at hle hnx RB
        have HQ : ((p : Int) + rr) ≤ (m : Int) := by omega
        go_wp2_with fail
        refine (ready_any HSI.out.j.at_).mono ?_
        rintro e w9 ⟨rfl, rfl⟩
        rw [ERR.out]
        go_wp2_with fail
        refine (same_n D (st.take p) p d a (st.take p) p c _ EP2.out EP2.out BG.out BS.out).mono ?_
        rintro e w9 ⟨rfl, rfl⟩
        rw [decide_eq_true rfl]
        go_wp2_with fail
        refine (next_any HSI.out.j.at_).mono ?_
        rintro e w9 ⟨rfl, rfl⟩
        have NX : Hid (s5.next = (next + (p + rr)) % 4294967296) := by
          show _ = _
          rw [hnx.out, Int.natCast_add, Int.natCast_add, EN.out]
          omega
        rw [NX.out]
        go_wp2_with fail
        refine (ready_any HSI.out.j.at_).mono ?_
        rintro e w9 ⟨rfl, rfl⟩
        rw [ERR.out]
        go_wp2_with fail
        go_roundw
        case rel => exact ⟨k + 1, by omega, by go_num, A2, c2, s5, D, d, p, HSI.out, HST.out, hring, by rw [EP2.out]⟩
        case measure => simp [intOf]; omega
    · have HSI0 := Lib.hid hsi
      have HST0 := Lib.hid hst
      clear hsi hst
      by_cases q : (k : Int) < pl
      · have q' : ¬ (k : Int) < 60 := by omega
        clear hkl
        go_wp2_with fail
        go_loopw [13, 21] (fun gv i wr => ∃ k : Nat, k ≤ m + 1 ∧ i = .int .i64 k ∧ ∃ A c s D d p, SIn w.heap.size w wr g R T A c s D d (st.take p) ∧ Str s st next.toNat p ∧ s.ring.length = 1 + rn ∧ gv = .slice D (st.take p).length d ∧ min k m ≤ p + s.ready.length) (fun _ i _ => m + 1 - (intOf i).toNat)
        case atStart => exact ⟨0, Nat.zero_le _, rfl, A, ca, s, D, d, p, HSI0.out, HST0.out, hring, by rw [EP.out], by omega⟩
        case round =>
          clear HSI0 HST0 hring EP hp0
          obtain ⟨k3, hk3, rfl, A, ca, s, D, d, p, hsi, hst, hring, rfl, hmin⟩ := hrel
          have hp0 : p ≤ m := by have := hst.le; rw [EM.out] at this; omega
          have EP : Hid ((st.take p).length = p) := by show _ = _; rw [List.length_take, EM.out]; omega
          rw [EP.out]
          have HSI := Lib.hid hsi
          have HST := Lib.hid hst
          clear hsi hst
          by_cases hkm : (k3 : Int) ≤ m
          · go_wp2_with fail
            refine (read_in HSI.out.j 1000 (by omega)).mono ?_
            rintro e w6 ⟨A6, c6, D6, d6, rfl, hj6, hs6, hF6, hn6⟩
            have fw := HST.out.inv.few
            have e6 : (min (1000 : Int) (s.ready.length : Int)).toNat = s.ready.length := by omega
            rw [e6] at hj6 hs6 ⊢
            have h6 := HSI.out.framed hj6 hF6 hn6
            obtain ⟨hst6, hgot⟩ := read_str HST.out s.ready.length (Nat.le_refl _)
            have hre : Hid ((readS s s.ready.length).ready = []) := by show s.ready.drop s.ready.length = []; simp
            have hr6 : (readS s s.ready.length).ring.length = 1 + rn := hring
            have L6 : Hid ((s.ready.take s.ready.length).length = s.ready.length) := by show _ = _; rw [List.length_take]; omega
            rw [L6.out]
            generalize readS s s.ready.length = s9 at *
            generalize s.ready.take s.ready.length = rt at *
            have HM := Lib.hid hmin
            clear hmin
            generalize s.ready.length = rr at *
            have hpm := hst6.le
            rw [hre.out, EM.out] at hpm
            simp only [List.length_nil, Nat.add_zero] at hpm
            have HO6 := Lib.hid h6.own
            have HS6 := Lib.hid hs6
            have SZ6 := Lib.hid h6.j.sz
            have LL : Hid ((st.take p).length + rt.length ≤ 140737488355328) := by show _ ≤ _; rw [EP.out, L6.out]; omega
            have H6 := Lib.hid h6
            have HG := Lib.hid hgot
            have HST6 := Lib.hid hst6
            have HPM := Lib.hid hpm
            clear HST HSI hj6 hF6 hn6 hs6 h6 hgot hst6 hring fw e6 hpm
            go_wp2_with (at_builtin; refine app_got _ rfl _ _ rfl w.heap.size D d (st.take p) p EP.out rfl HO6.out D6 d6 rt rr L6.out rfl HS6.out LL.out SZ6.out ?_; intro D7 d7 w7 ho7 hg7 hat7)
            have HSI := Lib.hid (H6.out.grow ho7 hg7 hat7)
            rw [HG.out] at HSI
            clear HO6 HS6 SZ6 LL H6 HG ho7 hg7 hat7
            generalize hpe : p + rr = pq at *
            replace hpe := Lib.hid hpe
            have EP2 : Hid ((st.take pq).length = pq) := by show _ = _; rw [List.length_take, EM.out]; have := HPM.out; omega
            have BS := Lib.hid ((HS.out.below HSI.out.j.bel).1)
            have AP : Hid (∀ q, a = some q → 0 < st.length → ¬ JF g R T A6 q.block) := by
              intro q eq hp' hf'
              obtain ⟨b', off', e', hc'⟩ := HS.out.1.at_ hp'
              rw [e'] at eq
              injection eq with eq
              subst eq
              have i1 := HSI.out.j.big _ hf'
              have i2 := World.block_lt_of_cell? w _ (hc' 0 hp')
              simp at i1 i2
              omega
            go_wp2_with fail
            refine (add_in HSI.out.j next n0 n1 a st m c EM.out BS.out AP.out (by rw [EM.out]; omega)).mono ?_
            rintro e w8 ⟨k4, A8, c8, rfl, hj8, hF8, hn8, t1, t2⟩
            have h8 := Lib.hid (HSI.out.framed hj8 hF8 hn8)
            have ad := add_str HST6.out (by rw [EM.out]; omega) (by rw [hr6]; omega) 0 m (by omega) (by rw [EM.out]; omega)
            rw [EN.out, show ((next + ((0 : Nat) : Int)) % 4294967296) = next by omega, List.drop_zero, List.take_of_length_le (Nat.le_of_eq EM.out)] at ad
            have hst8 := Lib.hid (run_str k4 _ ad t1)
            have hr8 : (runS k4 (addS s9 next st)).ring.length = 1 + rn := by rw [runS_ring, addS_ring]; exact hr6
            have GR : Hid (min (k3 + 1) m ≤ pq + (runS k4 (addS s9 next st)).ready.length) := by
              show _ ≤ _
              rw [runS_ready]
              have h1 := HM.out
              rcases Nat.lt_or_ge pq m with hlt | hge
              · have hn := all_moves HST6.out NN.out (by rw [EM.out]; omega) hre.out (by rw [EM.out]; exact hlt)
                rw [EN.out] at hn
                rcases Nat.eq_zero_or_pos k4 with h4 | h4
                · subst h4
                  rw [show runS 0 (addS s9 next st) = addS s9 next st from rfl, hn] at t2
                  cases t2
                · omega
              · omega
            clear hj8 hF8 hn8 t1 t2 ad HSI HST6
            generalize runS k4 (addS s9 next st) = s8 at *
            go_wp2_with fail
            go_roundw
            case rel => exact ⟨k3 + 1, by omega, by go_num, A8, c8, s8, D7, d7, pq, h8.out, hst8.out, hr8, by rw [EP2.out], GR.out⟩
            case measure => simp [intOf]; omega
          · have ek : k3 = m + 1 := by omega
            go_wp2_with fail
            refine (read_in HSI.out.j 1000 (by omega)).mono ?_
            rintro e w6 ⟨A6, c6, D6, d6, rfl, hj6, hs6, hF6, hn6⟩
            have fw := HST.out.inv.few
            have e6 : (min (1000 : Int) (s.ready.length : Int)).toNat = s.ready.length := by omega
            rw [e6] at hj6 hs6 ⊢
            have h6 := HSI.out.framed hj6 hF6 hn6
            obtain ⟨hst6, hgot⟩ := read_str HST.out s.ready.length (Nat.le_refl _)
            have hre : Hid ((readS s s.ready.length).ready = []) := by show s.ready.drop s.ready.length = []; simp
            have hr6 : (readS s s.ready.length).ring.length = 1 + rn := hring
            have L6 : Hid ((s.ready.take s.ready.length).length = s.ready.length) := by show _ = _; rw [List.length_take]; omega
            rw [L6.out]
            generalize readS s s.ready.length = s9 at *
            generalize s.ready.take s.ready.length = rt at *
            have HM := Lib.hid hmin
            clear hmin
            generalize s.ready.length = rr at *
            have hpm := hst6.le
            rw [hre.out, EM.out] at hpm
            simp only [List.length_nil, Nat.add_zero] at hpm
            have HO6 := Lib.hid h6.own
            have HS6 := Lib.hid hs6
            have SZ6 := Lib.hid h6.j.sz
            have LL : Hid ((st.take p).length + rt.length ≤ 140737488355328) := by show _ ≤ _; rw [EP.out, L6.out]; omega
            have H6 := Lib.hid h6
            have HG := Lib.hid hgot
            have HST6 := Lib.hid hst6
            have HPM := Lib.hid hpm
            clear HST HSI hj6 hF6 hn6 hs6 h6 hgot hst6 hring fw e6 hpm
            go_wp2_with (at_builtin; refine app_got _ rfl _ _ rfl w.heap.size D d (st.take p) p EP.out rfl HO6.out D6 d6 rt rr L6.out rfl HS6.out LL.out SZ6.out ?_; intro D7 d7 w7 ho7 hg7 hat7)
            have HSI := Lib.hid (H6.out.grow ho7 hg7 hat7)
            rw [HG.out] at HSI
            clear HO6 HS6 SZ6 LL H6 HG ho7 hg7 hat7
            generalize hpe : p + rr = pq at *
            replace hpe := Lib.hid hpe
            have EP2 : Hid ((st.take pq).length = pq) := by show _ = _; rw [List.length_take, EM.out]; have := HPM.out; omega
            have BS := Lib.hid ((HS.out.below HSI.out.j.bel).1)
            have FULL : Hid (st.take pq = st) := by
              show _ = _
              have h1 := HM.out
              have h2 := hpe.out
              rw [List.take_of_length_le (by rw [EM.out]; omega)]
            have BG := Lib.hid (HSI.out.own.bs)
            go_wp2_with fail
            refine (same_n D7 (st.take pq) pq d7 a st m c _ EP2.out EM.out BG.out BS.out).mono ?_
            rintro e w9 ⟨rfl, rfl⟩
            rw [decide_eq_true FULL.out]
            go_wp2_with fail
            go_ret
            exact ⟨rfl, HSI.out.j.bel⟩
      · clear hkl
        go_wp2_with fail
        go_loopw [13, 21] (fun gv i wr => ∃ k : Nat, k ≤ m + 1 ∧ i = .int .i64 k ∧ ∃ A c s D d p, SIn w.heap.size w wr g R T A c s D d (st.take p) ∧ Str s st next.toNat p ∧ s.ring.length = 1 + rn ∧ gv = .slice D (st.take p).length d ∧ min k m ≤ p + s.ready.length) (fun _ i _ => m + 1 - (intOf i).toNat)
        case atStart => exact ⟨0, Nat.zero_le _, rfl, A, ca, s, D, d, p, HSI0.out, HST0.out, hring, by rw [EP.out], by omega⟩
        case round =>
          clear HSI0 HST0 hring EP hp0
          obtain ⟨k3, hk3, rfl, A, ca, s, D, d, p, hsi, hst, hring, rfl, hmin⟩ := hrel
          have hp0 : p ≤ m := by have := hst.le; rw [EM.out] at this; omega
          have EP : Hid ((st.take p).length = p) := by show _ = _; rw [List.length_take, EM.out]; omega
          rw [EP.out]
          have HSI := Lib.hid hsi
          have HST := Lib.hid hst
          clear hsi hst
          by_cases hkm : (k3 : Int) ≤ m
          · go_wp2_with fail
            refine (read_in HSI.out.j 1000 (by omega)).mono ?_
            rintro e w6 ⟨A6, c6, D6, d6, rfl, hj6, hs6, hF6, hn6⟩
            have fw := HST.out.inv.few
            have e6 : (min (1000 : Int) (s.ready.length : Int)).toNat = s.ready.length := by omega
            rw [e6] at hj6 hs6 ⊢
            have h6 := HSI.out.framed hj6 hF6 hn6
            obtain ⟨hst6, hgot⟩ := read_str HST.out s.ready.length (Nat.le_refl _)
            have hre : Hid ((readS s s.ready.length).ready = []) := by show s.ready.drop s.ready.length = []; simp
            have hr6 : (readS s s.ready.length).ring.length = 1 + rn := hring
            have L6 : Hid ((s.ready.take s.ready.length).length = s.ready.length) := by show _ = _; rw [List.length_take]; omega
            rw [L6.out]
            generalize readS s s.ready.length = s9 at *
            generalize s.ready.take s.ready.length = rt at *
            have HM := Lib.hid hmin
            clear hmin
            generalize s.ready.length = rr at *
            have hpm := hst6.le
            rw [hre.out, EM.out] at hpm
            simp only [List.length_nil, Nat.add_zero] at hpm
            have HO6 := Lib.hid h6.own
            have HS6 := Lib.hid hs6
            have SZ6 := Lib.hid h6.j.sz
            have LL : Hid ((st.take p).length + rt.length ≤ 140737488355328) := by show _ ≤ _; rw [EP.out, L6.out]; omega
            have H6 := Lib.hid h6
            have HG := Lib.hid hgot
            have HST6 := Lib.hid hst6
            have HPM := Lib.hid hpm
            clear HST HSI hj6 hF6 hn6 hs6 h6 hgot hst6 hring fw e6 hpm
            go_wp2_with (at_builtin; refine app_got _ rfl _ _ rfl w.heap.size D d (st.take p) p EP.out rfl HO6.out D6 d6 rt rr L6.out rfl HS6.out LL.out SZ6.out ?_; intro D7 d7 w7 ho7 hg7 hat7)
            have HSI := Lib.hid (H6.out.grow ho7 hg7 hat7)
            rw [HG.out] at HSI
            clear HO6 HS6 SZ6 LL H6 HG ho7 hg7 hat7
            generalize hpe : p + rr = pq at *
            replace hpe := Lib.hid hpe
            have EP2 : Hid ((st.take pq).length = pq) := by show _ = _; rw [List.length_take, EM.out]; have := HPM.out; omega
            have BS := Lib.hid ((HS.out.below HSI.out.j.bel).1)
            have AP : Hid (∀ q, a = some q → 0 < st.length → ¬ JF g R T A6 q.block) := by
              intro q eq hp' hf'
              obtain ⟨b', off', e', hc'⟩ := HS.out.1.at_ hp'
              rw [e'] at eq
              injection eq with eq
              subst eq
              have i1 := HSI.out.j.big _ hf'
              have i2 := World.block_lt_of_cell? w _ (hc' 0 hp')
              simp at i1 i2
              omega
            go_wp2_with fail
            refine (add_in HSI.out.j next n0 n1 a st m c EM.out BS.out AP.out (by rw [EM.out]; omega)).mono ?_
            rintro e w8 ⟨k4, A8, c8, rfl, hj8, hF8, hn8, t1, t2⟩
            have h8 := Lib.hid (HSI.out.framed hj8 hF8 hn8)
            have ad := add_str HST6.out (by rw [EM.out]; omega) (by rw [hr6]; omega) 0 m (by omega) (by rw [EM.out]; omega)
            rw [EN.out, show ((next + ((0 : Nat) : Int)) % 4294967296) = next by omega, List.drop_zero, List.take_of_length_le (Nat.le_of_eq EM.out)] at ad
            have hst8 := Lib.hid (run_str k4 _ ad t1)
            have hr8 : (runS k4 (addS s9 next st)).ring.length = 1 + rn := by rw [runS_ring, addS_ring]; exact hr6
            have GR : Hid (min (k3 + 1) m ≤ pq + (runS k4 (addS s9 next st)).ready.length) := by
              show _ ≤ _
              rw [runS_ready]
              have h1 := HM.out
              rcases Nat.lt_or_ge pq m with hlt | hge
              · have hn := all_moves HST6.out NN.out (by rw [EM.out]; omega) hre.out (by rw [EM.out]; exact hlt)
                rw [EN.out] at hn
                rcases Nat.eq_zero_or_pos k4 with h4 | h4
                · subst h4
                  rw [show runS 0 (addS s9 next st) = addS s9 next st from rfl, hn] at t2
                  cases t2
                · omega
              · omega
            clear hj8 hF8 hn8 t1 t2 ad HSI HST6
            generalize runS k4 (addS s9 next st) = s8 at *
            go_wp2_with fail
            go_roundw
            case rel => exact ⟨k3 + 1, by omega, by go_num, A8, c8, s8, D7, d7, pq, h8.out, hst8.out, hr8, by rw [EP2.out], GR.out⟩
            case measure => simp [intOf]; omega
          · have ek : k3 = m + 1 := by omega
            go_wp2_with fail
            refine (read_in HSI.out.j 1000 (by omega)).mono ?_
            rintro e w6 ⟨A6, c6, D6, d6, rfl, hj6, hs6, hF6, hn6⟩
            have fw := HST.out.inv.few
            have e6 : (min (1000 : Int) (s.ready.length : Int)).toNat = s.ready.length := by omega
            rw [e6] at hj6 hs6 ⊢
            have h6 := HSI.out.framed hj6 hF6 hn6
            obtain ⟨hst6, hgot⟩ := read_str HST.out s.ready.length (Nat.le_refl _)
            have hre : Hid ((readS s s.ready.length).ready = []) := by show s.ready.drop s.ready.length = []; simp
            have hr6 : (readS s s.ready.length).ring.length = 1 + rn := hring
            have L6 : Hid ((s.ready.take s.ready.length).length = s.ready.length) := by show _ = _; rw [List.length_take]; omega
            rw [L6.out]
            generalize readS s s.ready.length = s9 at *
            generalize s.ready.take s.ready.length = rt at *
            have HM := Lib.hid hmin
            clear hmin
            generalize s.ready.length = rr at *
            have hpm := hst6.le
            rw [hre.out, EM.out] at hpm
            simp only [List.length_nil, Nat.add_zero] at hpm
            have HO6 := Lib.hid h6.own
            have HS6 := Lib.hid hs6
            have SZ6 := Lib.hid h6.j.sz
            have LL : Hid ((st.take p).length + rt.length ≤ 140737488355328) := by show _ ≤ _; rw [EP.out, L6.out]; omega
            have H6 := Lib.hid h6
            have HG := Lib.hid hgot
            have HST6 := Lib.hid hst6
            have HPM := Lib.hid hpm
            clear HST HSI hj6 hF6 hn6 hs6 h6 hgot hst6 hring fw e6 hpm
            go_wp2_with (at_builtin; refine app_got _ rfl _ _ rfl w.heap.size D d (st.take p) p EP.out rfl HO6.out D6 d6 rt rr L6.out rfl HS6.out LL.out SZ6.out ?_; intro D7 d7 w7 ho7 hg7 hat7)
            have HSI := Lib.hid (H6.out.grow ho7 hg7 hat7)
            rw [HG.out] at HSI
            clear HO6 HS6 SZ6 LL H6 HG ho7 hg7 hat7
            generalize hpe : p + rr = pq at *
            replace hpe := Lib.hid hpe
            have EP2 : Hid ((st.take pq).length = pq) := by show _ = _; rw [List.length_take, EM.out]; have := HPM.out; omega
            have BS := Lib.hid ((HS.out.below HSI.out.j.bel).1)
            have FULL : Hid (st.take pq = st) := by
              show _ = _
              have h1 := HM.out
              have h2 := hpe.out
              rw [List.take_of_length_le (by rw [EM.out]; omega)]
            have BG := Lib.hid (HSI.out.own.bs)
            go_wp2_with fail
            refine (same_n D7 (st.take pq) pq d7 a st m c _ EP2.out EM.out BG.out BS.out).mono ?_
            rintro e w9 ⟨rfl, rfl⟩
            rw [decide_eq_true FULL.out]
            go_wp2_with fail
            go_ret
            exact ⟨rfl, HSI.out.j.bel⟩
end Go.Proofs.Ytfijbbhoemdhbaa
