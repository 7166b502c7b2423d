/-
  The walk of the reference's Add.
-/
import Derived.Test.YtfijbbhoemdhbaaRefJ2
import Derived.Test.YtfijbbhoemdhbaaRefSeqA
import Derived.StillTailTactics
namespace Go.Proofs.Ytfijbbhoemdhbaa
open Go.RowKit
set_option linter.unusedVariables false

theorem Bs.framed {F : Nat → Prop} {w w' : World} {C : Option Addr} {bs : List UInt8} (h : Bs w C bs) (hf : Frame F w w') (hn : ∀ a, C = some a → 0 < bs.length → ¬ F a.block) : Bs w' C bs := by
  rcases h with h0 | ⟨b, off, rfl, hc⟩
  · exact .inl h0
  · refine .inr ⟨b, off, rfl, fun i hi => ?_⟩
    have hlt : b < w.heap.size := World.block_lt_of_cell? w _ (hc i hi)
    have hb := hf.block b hlt (fun hF => hn _ rfl (by omega) hF)
    rw [← hc i hi]
    simp [World.cell?, hb]
/-- What Add leaves. -/
def AddedR (B h : Nat) (N R : Int) (A : Option Addr) (c : Nat) (got : List UInt8) (D : Option Addr) (d : Nat) (n : Nat) (L' : HB) (m : Nat) (w : World) (e : Ending) (w' : World) : Prop :=
  ∃ A' c' D' d', e = .returned (.tuple #[.int .i64 (m : Nat), .int .i64 0]) ∧ RJ w' B h (addw N m) R A' c' (got ++ rtake L' m) D' d' (rdrop m L') ∧ Frame (RF h D n d) w w' ∧
    (∀ k, RF h D' (rdrop m L').length d' k → RF h D n d k ∨ w.heap.size ≤ k) ∧ ∀ k, (Value.slice A' (got ++ rtake L' m).length c').ownBlock = some k → (Value.slice A got.length c).ownBlock = some k ∨ w.heap.size ≤ k
/-- Behind the first loop's append. -/
def MidR (w : World) (B h : Nat) (N R : Int) (A : Option Addr) (c : Nat) (got : List UInt8) (D : Option Addr) (d : Nat) (n : Nat) (L2 : HB) (wr : World) : Prop :=
  ∃ D' d', RJ wr B h N R A c got D' d' L2 ∧ Frame (RF h D n d) w wr ∧ ∀ k, RF h D' L2.length d' k → RF h D n d k ∨ w.heap.size ≤ k

section
variable {w : World} {B h c d : Nat} {N R : Int} {A D : Option Addr} {got : List UInt8} {L : HB}
theorem rjadd_long (f : Int) (C : Option Addr) (n k : Nat) (w : World) (hn : 65536 < n) :
    Calls Try.prog 18 #[.pointer (some ⟨h, 0, none⟩), .int .u32 f, .slice C n k] w fun e w' => e = .returned (.tuple #[.int .i64 0, .int .i64 3]) ∧ w = w' := by
  have hn' : (65536 : Int) < (n : Int) := by omega
  clear hn
  go_enter Try.func18, Try.ntmps18
  go_wp2_with fail
  go_ret2
  exact ⟨rfl, rfl⟩

theorem OwnH.far {k : Nat} {E : Option Addr} {ec base : Nat} {F : HB} (o : OwnH w base E ec F) (hk : k < base) (i : Nat) (u : Value) : OwnH (w.setCell ⟨k, i, none⟩ u) base E ec F := by
  refine World.ownsRow.kept (row := some k) o ⟨rfl, rfl, rfl, by simp [World.setCell], fun q _ hq => Below.heap_setCell w ⟨k, i, none⟩ _ q (fun e => hq (by rw [e]))⟩ ?_
  cases hv : (Value.slice E F.length ec).ownBlock with
  | none => exact .inl rfl
  | some q => exact .inr (by have := (World.ownsRow.lt o q hv).1; simp; omega)
theorem RJ.gotne (r : RJ w B h N R A c got D d L) : (Value.slice A got.length c).ownBlock ≠ some h := own_blk_ne r.got r.blk (by decide)
/-- Behind 'j.Held = left; j.Next = ..'. -/
theorem RJ.fin {E : Option Addr} {ec base : Nat} {F : HB} {an : Int} (r : RJ w B h N R A c got D d L) (o : OwnH w base E ec F) (hb : h < base) :
    RJ ((w.setCell ⟨h, 3, none⟩ (.slice E F.length ec)).setCell ⟨h, 0, none⟩ (.int .u32 an)) B h an R A c got E ec F := by
  have hg := r.gotne
  refine ⟨(r.blk.set 3 (.slice E F.length ec)).set 0 (.int .u32 an), own_set_far (own_set_far r.got (p := ⟨h, 3, none⟩) hg _) (p := ⟨h, 0, none⟩) hg _, ?_, r.base⟩
  have o2 := (o.far hb 3 (.slice E F.length ec)).far hb 0 (.int .u32 an)
  exact ⟨o2.1, o2.2.imp id (fun ⟨g, cap, cur, a, b, q⟩ => ⟨g, cap, cur, a, Nat.le_trans (by have := r.base; omega) b, q⟩)⟩
/-- Behind 'j.Got = append(append([]byte{}, j.Got...), c)'. -/
theorem got_below {w7 w8 : World} {A2 : Option Addr} {c2 n : Nat} {G : List UInt8} {ob : Obj} (h7 : (w.alloc (.cells #[] 5)).grownBy w7 (Value.slice (some ⟨w.heap.size, 0, none⟩) n 0).ownBlock) (o7 : Own w7 w.heap.size A2 c2 G) (h8 : (w7.alloc ob).grownBy w8 (Value.slice A2 G.length c2).ownBlock) : Below w.heap.size w w8 := by
  have b7 : Below w.heap.size w w7 := ((Below.refl _ _).alloc (Nat.le_refl _) _).grown h7 (by simp) (fun k hk => by simp [Value.ownBlock] at hk; omega)
  exact (b7.alloc b7.size ob).grown h8 (by have := b7.size; simp; omega) (fun k hk => (ownBlock_lt o7 k hk).1)
theorem got_fin {w7 w8 : World} {A2 : Option Addr} {c2 n : Nat} {G : List UInt8} {ob : Obj} (r : RJ w B h N R A c got D d L) (h7 : (w.alloc (.cells #[] 5)).grownBy w7 (Value.slice (some ⟨w.heap.size, 0, none⟩) n 0).ownBlock) (o7 : Own w7 w.heap.size A2 c2 G) (h8 : (w7.alloc ob).grownBy w8 (Value.slice A2 G.length c2).ownBlock) :
    w8.frozen? ⟨h, 2, none⟩ = false ∧ w8.cell? ⟨h, 2, none⟩ = some (.slice A got.length c) :=
  ⟨(r.below (got_below h7 o7 h8)).blk.free 2, (r.below (got_below h7 o7 h8)).blk.cell 2⟩
theorem RJ.setGot {w' : World} {A' : Option Addr} {c' : Nat} {got' : List UInt8} (r : RJ w B h N R A c got D d L) (hb : Below w.heap.size w w') (o : Own w' w.heap.size A' c' got') :
    RJ (w'.setCell ⟨h, 2, none⟩ (.slice A' got'.length c')) B h N R A' c' got' D d L ∧ Frame (RF h D L.length d) w (w'.setCell ⟨h, 2, none⟩ (.slice A' got'.length c')) := by
  have r' := r.below hb
  have hl := r.lt
  refine ⟨⟨r'.blk.set 2 _, (own_set_far o (p := ⟨h, 2, none⟩) (fun e => by have := (ownBlock_lt o h e).1; omega) _).base (Nat.zero_le _), ?_, r.base⟩, (Frame.of_below hb).set (p := ⟨h, 2, none⟩) (.inl rfl) _⟩
  refine World.ownsRow.kept (row := some h) r'.held ⟨rfl, rfl, rfl, by simp [World.setCell], fun k _ hk => Below.heap_setCell w' ⟨h, 2, none⟩ _ k (fun e => hk (by rw [e]))⟩ (.inr ?_)
  exact fun e => r'.Dh e
set_option maxHeartbeats 8000000 in
set_option maxRecDepth 100000 in
theorem rjadd_any (r : RJ w B h N R A c got D d L) (f : Int) (C : Option Addr) (bs : List UInt8) (bn bc W m : Nat) (hbn : bs.length = bn) (n0 : 0 ≤ N) (n1 : N < 4294967296) (f0 : 0 ≤ f) (f1 : f < 4294967296) (r1 : R ≤ 65535) (hW : R - got.length = (W : Int))
    (hl : bs.length ≤ 65536) (hL : L.length ≤ 65536) (hB : Bs w C bs) (hap : ∀ a, C = some a → 0 < bs.length → ¬ RF h D L.length d a.block)
    (hm : ∀ j, j < m → (hlook j (raddN N f W L 0 bs)).isSome = true) (he : hlook m (raddN N f W L 0 bs) = none) (hmW : m ≤ W) (hxb : ∀ x ∈ raddN N f W L 0 bs, x.1 ≤ 65535) :
    Calls Try.prog 18 #[.pointer (some ⟨h, 0, none⟩), .int .u32 f, .slice C bn bc] w (AddedR B h N R A c got D d L.length (raddN N f W L 0 bs) m w) := by
  have HR := Lib.hid r
  have HB := Lib.hid hB
  have HAP := Lib.hid hap
  have HM := Lib.hid hm
  have HE := Lib.hid he
  have HMW := Lib.hid hmW
  have HXB := Lib.hid hxb
  have HL0 := Lib.hid hl
  have HL1 := Lib.hid hL
  have HBN := Lib.hid hbn
  have RS := Lib.hid (fun (k : Nat) (w : World) => rsadd_any f k w f0 f1)
  have RW := Lib.hid (fun (x : Int) (w : World) h1 h2 => rway_any N x w n0 n1 h1 h2)
  have NS := Lib.hid (fun (k : Nat) (w : World) => rsadd_any N k w n0 n1)
  have RW1 : Hid (R ≤ 65535) := r1
  have hgR : Hid ((got.length : Int) ≤ R) := by show _ ≤ _; omega
  have hbl : (bn : Int) ≤ 65536 := by omega
  obtain ⟨V, EV⟩ : ∃ V : Int, Hid ((W : Int) = V) := ⟨_, rfl⟩
  rw [EV.out] at hW
  have HWI := Lib.hid hW
  have hWb : V ≤ 65535 := by omega
  have hV0 : 0 ≤ V := by have := EV.out; omega
  have hbd : decide ((65536 : Int) < (bn : Int)) = false := by simpa using hbl
  clear r hB hap hm he hmW hxb hl hL hbn n0 n1 f0 f1 r1
  go_enter Try.func18, Try.ntmps18
  clear hW
  go_wp2_with fail
  refine (rjwindow_any HR.out RW1.out hgR.out).mono ?_
  rintro e w1 ⟨rfl, hd⟩
  rw [HWI.out]
  have HR1 := Lib.hid (HR.out.drawn hd)
  have HF1 : Hid (Frame (RF h D L.length d) w w1) := drawn_frame hd
  clear hd
  go_wp2_with fail
  go_loopw [9] (fun i wr => ∃ (k : Nat) (D' : Option Addr) (d' : Nat), k ≤ bn ∧ i = .int .i64 k ∧ RJ wr B h N R A c got D' d' (raddN N f W L 0 (bs.take k)) ∧ Frame (RF h D L.length d) w wr ∧ (∀ j, RF h D' (raddN N f W L 0 (bs.take k)).length d' j → RF h D L.length d j ∨ w.heap.size ≤ j)) (fun i _ => bn - (intOf i).toNat)
  case atStart => exact ⟨0, D, d, Nat.zero_le _, rfl, HR1.out, HF1.out, fun j hj => .inl hj⟩
  case round =>
    obtain ⟨k, D1, d1, hk, rfl, hr, hf, hn⟩ := hrel
    have hlen := raddN_take_len N f W L bs k
    by_cases hlt : k < bn
    · have HN : Hid (bn - (k + 1) < bn - k) := by show _ < _; omega
      have hlt' : (k : Int) < (bn : Int) := by omega
      have hnx := raddN_take N f W L bs k (by rw [HBN.out]; exact hlt)
      have hbs := HB.out.framed hf HAP.out
      obtain ⟨b, off, rfl, hc⟩ := hbs.at_ (by rw [HBN.out]; omega)
      have ck := hc k (by rw [HBN.out]; exact hlt)
      obtain ⟨x, EX⟩ : ∃ x, Hid (bs.getD k 0 = x) := ⟨_, rfl⟩
      rw [EX.out] at ck hnx
      have hx := x.toNat_lt
      obtain ⟨Lk, EL⟩ : ∃ z, Hid (raddN N f W L 0 (bs.take k) = z) := ⟨_, rfl⟩
      rw [EL.out] at hr hn hnx hlen
      have hL9 : Lk.length ≤ 200000 := by have := HL1.out; have := HL0.out; have := HBN.out; omega
      have HL9 := Lib.hid hL9
      have HNX := Lib.hid hnx
      have HR2 := Lib.hid hr
      have HF2 := Lib.hid hf
      have HN2 := Lib.hid hn
      have c0 : wr.cell? ⟨h, 0, none⟩ = some (.int .u32 N) := hr.blk.cell 0
      have hq0 := way_bd N (addw f k)
      have ha0 : 0 ≤ addw f (k : Int) ∧ addw f (k : Int) < 4294967296 := by unfold addw; omega
      clear hc hbs hnx hr hf hn hlen hL9
      obtain ⟨ad, EA⟩ : ∃ z, Hid (addw f (k : Int) = z) := ⟨_, rfl⟩
      rw [EA.out] at ha0 hq0
      obtain ⟨qq, EW⟩ : ∃ z, Hid (way N ad = z) := ⟨_, rfl⟩
      rw [EW.out] at hq0
      have hq1 := hq0.1
      have hq2 := hq0.2
      have RSk := Lib.hid (RS.out k)
      rw [EA.out] at RSk
      have RWk := Lib.hid (fun w => RW.out ad w ha0.1 ha0.2)
      rw [EW.out] at RWk
      have HST : Hid (raddN N f W L 0 (bs.take (k + 1)) = if qq < V then rhold Lk qq.toNat x else Lk) := by
        show _ = _
        rw [HNX.out, rstep, EA.out, EW.out, EV.out]
      clear hq0 HNX ha0
      go_wp2_with fail
      go_quiet ((first
        | (go_at_call 30; exact Calls.quiet_of_same ((RSk.out _).mono fun _ _ h => ⟨h.1, h.2.symm⟩))
        | (go_at_call 29; exact Calls.quiet_of_same ((RWk.out _).mono fun _ _ h => ⟨h.1, h.2.symm⟩))))
      have HR3 := Lib.hid (HR2.out.drawn ⟨nq, rfl⟩)
      have HF3 := Lib.hid (HF2.out.drewN nq)
      have hwz : (wr.drewN nq).heap.size = wr.heap.size := rfl
      replace ck : (wr.drewN nq).cell? ⟨b, off + k, none⟩ = some (.int .u8 (x.toNat : Int)) := ck
      clear hwz c0 HR2 HF2
      generalize wr.drewN nq = w2 at *
      by_cases hoW : qq < V
      · have HS2 : Hid (raddN N f W L 0 (bs.take (k + 1)) = rhold Lk qq.toNat x) := by show _ = _; rw [HST.out, if_pos hoW]
        clear HST
        go_wp2_with fail
        obtain ⟨o, rfl⟩ := Int.eq_ofNat_of_zero_le hq1
        rw [Int.toNat_natCast] at HS2
        clear hq1 hq2
        refine (rjhas_any HR3.out o (by have := HL9.out; omega)).mono ?_
        rintro e w3 ⟨rfl, rfl⟩
        cases hb : (hlook o Lk).isSome
        · have HS3 : Hid (raddN N f W L 0 (bs.take (k + 1)) = Lk ++ [(o, x)]) := by show _ = _; rw [HS2.out, rhold, if_neg (by rw [hb]; simp)]
          clear hb HS2
          have hJ := HR3.out
          have c3 : w2.cell? ⟨h, 3, none⟩ = some (.slice D1 Lk.length d1) := hJ.blk.cell 3
          have f3 := hJ.blk.free 3
          have lg := hJ.lt
          have hown : w2.ownsRow B 66 2 (.slice D1 Lk.length d1) Lk.length (Lk.flatMap hval) := hJ.held
          have aG : (Value.slice D1 Lk.length d1).ownBlock ≠ some h := hJ.Dh
          have hBs := hJ.Bsz
          have hL9 := HL9.out
          have hfl := hflat_length Lk
          have HJ := Lib.hid hJ
          clear hJ
          obtain ⟨ln, HLn⟩ : ∃ z, Hid (Lk.length = z) := ⟨_, rfl⟩
          have hLn := HLn.out
          rw [hLn] at c3 hown aG hL9 hfl
          clear hLn
          obtain ⟨fl, HFl⟩ : ∃ z, Hid (Lk.flatMap hval = z) := ⟨_, rfl⟩
          rw [HFl.out] at hown hfl
          have HFL := Lib.hid hfl
          clear hfl
          obtain ⟨i0, hi0, hz0, hz1, hz2⟩ := info_parts' info_hb
          go_upto_region 11 with fail
          have EWO : Hid (IntKind.i64.wrap (o : Int) = (o : Int)) := IntWalk.i64_in _ (by omega)
          go_region_law ((refine step_append_lies _ (by rfl) _ _ _ (by rfl) B 66 i0 _ 2 16 Try.underlying49 hi0 hz0 hz1 hz2 rfl (by omega) (.slice D1 ln d1) ln fl (by rfl) ((hown.alloc _).drew) ⟨w2.heap.size, 0, none⟩ 1 1 [.int .i64 (IntKind.i64.wrap (o : Int)), .int .u8 (x.toNat : Int)] (by rfl) (by rfl) (World.news_of_block (cs := #[.int .i64 (IntKind.i64.wrap (o : Int)), .int .u8 (x.toNat : Int)]) (t := 66) (fr := (0, 0)) (heap_alloc_new w2 _)) (by simp [Value.oneCell']) (by omega) (by simp only [maxLen]; omega) (by omega) (by simp; omega) (w2.heap.size + 1) (by simp) ?_; intro gg cap wB hown1 hgrow hat hlt; have f5' : wB.frozen? ⟨h, 3, none⟩ = false := (hgrow.frozen_far ⟨h, 3, none⟩ (by simp; omega) (Ne.symm aG)).trans ((World.frozen?_alloc_past _ _ _ lg).trans f3); have c5' : wB.cell? ⟨h, 3, none⟩ = some (.slice D1 ln d1) := (hgrow.cell_far ⟨h, 3, none⟩ (by simp; omega) (Ne.symm aG)).trans ((World.cell?_alloc_past _ _ _ lg).trans c3)))
          all_goals
            rw [EWO.out] at hown1
            have e1 := HLn.out
            have e2 := HFl.out
            subst e1 e2
            obtain ⟨_, _, q1, q2, q3⟩ := RJ.app (x := (o, x)) HJ.out _ ⟨1, rfl⟩ hown1 hgrow hat
            have Q1 := Lib.hid q1
            have Q2 := Lib.hid (HF3.out.trans q2 HN2.out)
            have Q3 : Hid (∀ j, RF h (some ⟨gg, 0, none⟩) (Lk ++ [(o, x)]).length cap j → RF h D L.length d j ∨ w.heap.size ≤ j) := fun j hj => by
              rcases q3 j hj with h1 | h1
              · exact HN2.out j h1
              · exact .inr (Nat.le_trans HF3.out.size h1)
            clear q1 q2 q3 hown1 hgrow hat hlt f5' c5' hown
            generalize wB.setCell ⟨h, 3, none⟩ (.slice (some ⟨gg, 0, none⟩) (Lk.length + 1) cap) = w4 at *
            go_wp2_with fail
            go_roundw
            case rel => exact ⟨k + 1, some ⟨gg, 0, none⟩, cap, by omega, by go_num, by rw [HS3.out]; exact Q1.out, Q2.out, by rw [HS3.out]; exact Q3.out⟩
            case measure => simp [intOf]; exact HN.out
        · have HS3 : Hid (raddN N f W L 0 (bs.take (k + 1)) = Lk) := by show _ = _; rw [HS2.out, rhold, if_pos (by rw [hb])]
          clear hb HS2
          go_wp2_with fail
          go_roundw
          case rel => exact ⟨k + 1, D1, d1, by omega, by go_num, by rw [HS3.out]; exact HR3.out, HF3.out, by rw [HS3.out]; exact HN2.out⟩
          case measure => simp [intOf]; exact HN.out
      · have HS2 : Hid (raddN N f W L 0 (bs.take (k + 1)) = Lk) := by show _ = _; rw [HST.out, if_neg hoW]
        clear HST
        go_wp2_with fail
        go_roundw
        case rel => exact ⟨k + 1, D1, d1, by omega, by go_num, by rw [HS2.out]; exact HR3.out, HF3.out, by rw [HS2.out]; exact HN2.out⟩
        case measure => simp [intOf]; exact HN.out
    · have ek : k = bn := by omega
      subst ek
      rw [← HBN.out, List.take_length] at hr hn
      obtain ⟨L', EL'⟩ : ∃ z, Hid (raddN N f W L 0 bs = z) := ⟨_, rfl⟩
      rw [EL'.out] at hr hn HM HE HXB ⊢
      have HR4 := Lib.hid hr
      have HF4 := Lib.hid hf
      have HN4 := Lib.hid hn
      have HL4 : Hid (L'.length ≤ 140000) := by show _ ≤ _; have h1 := raddN_take_len N f W L bs bs.length; rw [List.take_length, EL'.out] at h1; have := HL0.out; have := HL1.out; omega
      clear hr hf hn hlen hbl hbd HR1 HF1
      have hm1 : (m : Int) ≤ V := by have := HMW.out; have := EV.out; omega
      have ML := Lib.hid hm1
      clear hm1
      go_wp2_with fail
      go_loopw [13, 14] (fun a i w5 => ∃ (j : Nat) (A' : Option Addr) (c' : Nat), j ≤ m ∧ a = .int .i64 j ∧ i = .int .i64 j ∧ RJ w5 B h N R A' c' (got ++ rtake L' j) D1 d1 L' ∧ Frame (RF h D L.length d) w w5 ∧ (∀ q, (Value.slice A' (got ++ rtake L' j).length c').ownBlock = some q → (Value.slice A got.length c).ownBlock = some q ∨ w.heap.size ≤ q)) (fun a _ _ => m - (intOf a).toNat)
      case atStart => exact ⟨0, A, c, Nat.zero_le _, rfl, rfl, by simpa [rtake] using HR4.out, HF4.out, fun q hq => .inl (by simpa [rtake] using hq)⟩
      case round =>
        obtain ⟨j, A1, c1, hj, rfl, rfl, hr, hf, hg⟩ := hrel
        have HR5 := Lib.hid hr
        have HF5 := Lib.hid hf
        have HG5 := Lib.hid hg
        clear hr hf hg
        have hjV : (j : Int) ≤ V := by have := ML.out; omega
        go_wp2_with fail
        refine (rjhas_any HR5.out j (by have := HL4.out; omega)).mono ?_
        rintro e w6 ⟨rfl, rfl⟩
        by_cases hlt : j < m
        · have HN : Hid (m - (j + 1) < m - j) := by show _ < _; omega
          have hb := HM.out j hlt
          obtain ⟨y, hy⟩ := Option.isSome_iff_exists.1 hb
          rw [hy]
          have HT : Hid (rtake L' (j + 1) = rtake L' j ++ [y]) := by show _ = _; rw [rtake_succ, hy]; rfl
          clear hb hy
          have c2 : wr.cell? ⟨h, 2, none⟩ = some (.slice A1 (got ++ rtake L' j).length c1) := HR5.out.blk.cell 2
          have hgl : (got ++ rtake L' j).length ≤ 140000 := by rw [List.length_append, rtake_len]; have := hgR.out; have := RW1.out; have := HMW.out; have := EV.out; omega
          obtain ⟨G, EG⟩ : ∃ z, Hid (got ++ rtake L' j = z) := ⟨_, rfl⟩
          rw [EG.out] at c2 hgl HR5 HG5
          have HT2 : Hid (got ++ rtake L' (j + 1) = G ++ [y]) := by show _ = _; rw [HT.out, ← List.append_assoc, EG.out]
          obtain ⟨gl, EGL⟩ : ∃ z, Hid (G.length = z) := ⟨_, rfl⟩
          rw [EGL.out] at c2 hgl
          have HS5 : Hid (Sl (wr.alloc (.cells #[] 5)) A1 c1 G) := HR5.out.got.sl.below ((Below.refl _ _).alloc (Nat.le_refl _) _)
          have lgh : h < wr.heap.size := HR5.out.lt
          have c2a : (wr.alloc (.cells #[] 5)).cell? ⟨h, 2, none⟩ = some (.slice A1 gl c1) := keep_below ((Below.refl _ _).alloc (Nat.le_refl _) _) _ _ c2
          go_upto_region 18 with fail
          go_wp2_with (at_builtin; first
            | (refine app_n _ rfl _ _ rfl wr.heap.size (some ⟨wr.heap.size, 0, none⟩) 0 [] 0 rfl rfl (own_nil_made wr _ (Nat.le_refl _)) A1 c1 G gl EGL.out rfl HS5.out (by rw [EGL.out]; simp; omega) (by simp) ?_; intro A2 c2' w7 hown7 hgr7; have HO7 : Hid (Own w7 wr.heap.size A2 c2' G) := hown7; have HG7 := Lib.hid hgr7; clear hown7 hgr7)
            | (refine app_n _ rfl _ _ rfl wr.heap.size A2 c2' G gl EGL.out rfl (HO7.out.keep ((Below.refl _ _).alloc (Nat.le_refl _) _)) (some ⟨w7.heap.size, 0, none⟩) 1 [y] 1 rfl rfl ⟨bs_lit w7 [y], by simp, by simp, fun h => by cases h⟩ (by rw [EGL.out]; simp; omega) (by have := (HG7.out).size; simp at this ⊢; omega) ?_; intro A3 c3' w8 hown8 hgr8; have HO8 := Lib.hid hown8; have HG8 := Lib.hid hgr8; clear hown8 hgr8; obtain ⟨f2', c2b⟩ := got_fin HR5.out HG7.out HO7.out HG8.out))
          go_roundw
          case rel =>
            have q := RJ.setGot HR5.out (got_below HG7.out HO7.out HG8.out) HO8.out
            have el : (G ++ [y]).length = gl + 1 := by rw [List.length_append, EGL.out]; rfl
            rw [el] at q
            refine ⟨j + 1, A3, c3', by omega, by go_num, by go_num, by rw [HT2.out]; exact q.1, HF5.out.trans q.2 (fun i hi => ?_), fun q hq => .inr ?_⟩
            · exact HN4.out i hi
            · rw [HT2.out] at hq
              exact Nat.le_trans HF5.out.size (ownBlock_lt HO8.out q hq).1
          case measure => simp [intOf]; exact HN.out
        · have ej : j = m := by omega
          subst ej
          rw [HE.out]
          rename World => wz
          have hst : OwnH (wz.alloc (.cells #[] 66)) wz.heap.size (some ⟨wz.heap.size, 0, none⟩) 0 [] := World.ownsRow_made wz #[] 0 (Nat.le_refl _) (by simp [maxLen]) rfl
          have HST := Lib.hid hst
          clear hst hlt hjV
          obtain ⟨i0, hi0, hz0, hz1, hz2⟩ := info_parts' info_hb
          obtain ⟨G, EG⟩ : ∃ z, Hid (got ++ rtake L' j = z) := ⟨_, rfl⟩
          rw [EG.out] at HR5 HG5
          go_wp2_with fail
          go_loopw [17, 18] (fun s i w9 => ∃ (n : Nat) (E : Option Addr) (ec : Nat), n ≤ L'.length ∧ i = .int .i64 n ∧ s = .slice E (rdrop j (L'.take n)).length ec ∧ OwnH w9 wz.heap.size E ec (rdrop j (L'.take n)) ∧ Below wz.heap.size wz w9) (fun _ i _ => L'.length - (intOf i).toNat)
          case atStart => exact ⟨0, some ⟨wz.heap.size, 0, none⟩, 0, Nat.zero_le _, rfl, rfl, HST.out, (Below.refl _ _).alloc (Nat.le_refl _) _⟩
          case round =>
            obtain ⟨n, E, ec, hn, rfl, rfl, ho, hb⟩ := hrel
            have hr := HR5.out.below hb
            have hLL := HL4.out
            have hlen := rdrop_take_len j L' n
            have HR6 := Lib.hid hr
            have HO6 := Lib.hid ho
            have HB6 := Lib.hid hb
            have c3 : wr.cell? ⟨h, 3, none⟩ = some (.slice D1 L'.length d1) := hr.blk.cell 3
            by_cases hlt : n < L'.length
            · obtain ⟨q, rfl, hq1, hq2⟩ := hr.held.form (by omega)
              obtain ⟨x, hx⟩ : ∃ x, L'[n]? = some x := ⟨_, List.getElem?_eq_getElem hlt⟩
              have e0 := hr.held.cell n 0 x hx (by omega)
              have e1 := hr.held.cell n 1 x hx (by omega)
              simp only [hval, List.getElem?_cons_zero, List.getElem?_cons_succ, Nat.add_zero] at e0 e1
              have HT := Lib.hid (rdrop_take j L' n x hx)
              have hlt' : (n : Int) < (L'.length : Int) := by omega
              have HN : Hid (L'.length - (n + 1) < L'.length - n) := by show _ < _; omega
              obtain ⟨F, EF⟩ : ∃ z, Hid (rdrop j (L'.take n) = z) := ⟨_, rfl⟩
              rw [EF.out] at HT HO6 hlen ⊢
              have HL6 : Hid (F.length ≤ 140000) := by show _ ≤ _; omega
              have hx1 : (x.1 : Int) ≤ 65535 := by have := HXB.out x (List.mem_of_getElem? hx); omega
              have hn14 : (n : Int) ≤ 140000 := by omega
              clear hx hr hb ho hq1 hq2 hlen hLL
              obtain ⟨LL, HLL⟩ : ∃ z, Hid (L'.length = z) := ⟨_, rfl⟩
              rw [HLL.out] at hn hlt hlt' c3 HN ⊢
              by_cases hge : j ≤ x.1
              · have Y : Hid (rdrop j (L'.take (n + 1)) = F ++ [(x.1 - j, x.2)]) := by show _ = _; rw [HT.out, if_pos hge]
                have hge' : (j : Int) ≤ (x.1 : Int) := by omega
                have hown : wr.ownsRow wz.heap.size 66 2 (.slice E F.length ec) F.length (F.flatMap hval) := HO6.out
                have hBs : wz.heap.size ≤ wr.heap.size := HB6.out.size
                have hL6 := HL6.out
                have hfl := hflat_length F
                obtain ⟨ln, HLn⟩ : ∃ z, Hid (F.length = z) := ⟨_, rfl⟩
                have hLn := HLn.out
                rw [hLn] at hown hL6 hfl
                rw [hLn]
                clear hLn
                obtain ⟨fl, HFl⟩ : ∃ z, Hid (F.flatMap hval = z) := ⟨_, rfl⟩
                rw [HFl.out] at hown hfl
                have HFL := Lib.hid hfl
                clear hfl
                have ewx : ((x.1 : Int) - (j : Int)) = ((x.1 - j : Nat) : Int) := by omega
                have EWX := Lib.hid ewx
                clear ewx
                go_upto_region 25 with fail
                have EWW : Hid (IntKind.i64.wrap ((x.1 : Int) - (j : Int)) = ((x.1 - j : Nat) : Int)) := by show _ = _; rw [IntWalk.i64_in _ (by omega)]; exact EWX.out
                have HBr := Lib.hid HB6.out
                clear HR6 HO6
                go_region_law ((refine step_append_lies _ (by rfl) _ _ _ (by rfl) wz.heap.size 66 i0 _ 2 16 Try.underlying49 hi0 hz0 hz1 hz2 rfl (by omega) (.slice E ln ec) ln fl (by rfl) ((hown.alloc _).drew) ⟨wr.heap.size, 0, none⟩ 1 1 [.int .i64 (IntKind.i64.wrap ((x.1 : Int) - (j : Int))), .int .u8 (x.2.toNat : Int)] (by rfl) (by rfl) (World.news_of_block (cs := #[.int .i64 (IntKind.i64.wrap ((x.1 : Int) - (j : Int))), .int .u8 (x.2.toNat : Int)]) (t := 66) (fr := (0, 0)) (heap_alloc_new wr _)) (by simp [Value.oneCell']) (by omega) (by simp only [maxLen]; omega) (by omega) (by simp; omega) (wr.heap.size + 1) (by simp) ?_; intro gg cap wB hown1 hgrow hat hlt2))
                all_goals clear c3 e0 e1
                all_goals
                  rw [EWW.out] at hown1
                  have eln := HLn.out
                  have efl := HFl.out
                  subst eln efl
                  have K1 := Lib.hid (OwnH.snoc (x := (x.1 - j, x.2)) hown1)
                  have K2 := Lib.hid ((below_drewN (HB6.out.alloc hBs _) 1).grown hgrow (by simp; omega) (fun k hk => (World.ownsRow.lt hown k hk).1))
                  clear hown1 hgrow hat hlt2 hown
                  go_wp2_with fail
                  go_roundw
                  case rel => exact ⟨n + 1, some ⟨gg, 0, none⟩, cap, by omega, by go_num, by rw [Y.out]; simp, by rw [Y.out]; exact (by have := K1.out; unfold OwnH; simpa using this), K2.out⟩
                  case measure => simp [intOf]; exact HN.out
              · have Y : Hid (rdrop j (L'.take (n + 1)) = F) := by show _ = _; rw [HT.out, if_neg hge]
                have hge' : ¬ (j : Int) ≤ (x.1 : Int) := by omega
                go_wp2_with fail
                go_roundw
                case rel => exact ⟨n + 1, E, ec, by omega, by go_num, by rw [Y.out], by rw [Y.out]; exact HO6.out, HB6.out⟩
                case measure => simp [intOf]; exact HN.out
            · have en : n = L'.length := by omega
              subst en
              rw [List.take_length] at HO6 ⊢
              obtain ⟨F, EF⟩ : ∃ z, Hid (rdrop j L' = z) := ⟨_, rfl⟩
              rw [EF.out] at HO6 ⊢
              have f3 := hr.blk.free 3
              have c0 : wr.cell? ⟨h, 0, none⟩ = some (.int .u32 N) := hr.blk.cell 0
              have f0 := hr.blk.free 0
              have lgh := hr.lt
              clear hr hb ho hlen hLL
              have NSj := Lib.hid (NS.out j)
              obtain ⟨an, EAN⟩ : ∃ z, Hid (addw N (j : Int) = z) := ⟨_, rfl⟩
              rw [EAN.out] at NSj
              go_wp2_with fail
              refine (NSj.out _).mono ?_
              rintro e w11 ⟨rfl, rfl⟩
              have hlw : h < wz.heap.size := HR5.out.lt
              have q1 := HR6.out.fin HO6.out hlw (an := an)
              have q2 : Frame (RF h D L.length d) w ((wr.setCell ⟨h, 3, none⟩ (.slice E F.length ec)).setCell ⟨h, 0, none⟩ (.int .u32 an)) := ((HF5.out.trans (Frame.of_below (F := RF h D L.length d) HB6.out) (fun i hi => .inl hi)).set (p := ⟨h, 3, none⟩) (.inl rfl) _).set (p := ⟨h, 0, none⟩) (.inl rfl) _
              have q3 : ∀ k, RF h E F.length ec k → RF h D L.length d k ∨ w.heap.size ≤ k := by
                rintro k (rfl | hk)
                · exact .inl (.inl rfl)
                · exact .inr (Nat.le_trans HF5.out.size (World.ownsRow.lt HO6.out k hk).1)
              have FIN : Hid (AddedR B h N R A c got D d L.length L' j w (.returned (.tuple #[.int .i64 (j : Nat), .int .i64 0])) ((wr.setCell ⟨h, 3, none⟩ (.slice E F.length ec)).setCell ⟨h, 0, none⟩ (.int .u32 an))) :=
                ⟨A1, c1, E, ec, rfl, by rw [EG.out, EF.out, EAN.out]; exact q1, q2, by rw [EF.out]; exact q3, by rw [EG.out]; exact HG5.out⟩
              clear q1 q2 q3
              go_wp2_with fail
              go_ret2
              rw [EL'.out]
              exact FIN.out
end
end Go.Proofs.Ytfijbbhoemdhbaa
