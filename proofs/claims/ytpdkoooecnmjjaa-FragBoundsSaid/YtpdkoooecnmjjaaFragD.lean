/-
  The walks of drop and forget.
-/
import Derived.Test.YtpdkoooecnmjjaaFragC
import Derived.LaidEqlPtr
import Derived.StillTailTactics
import Derived.Deep.DeepCutAuto
import Derived.Deep.RegionHeld3
namespace Go.Proofs.Ytpdkoooecnmjjaa
open Go.RowKit
set_option linter.unusedVariables false

/-- A test of wholes, as one of their places. -/
def onG (L : List WX) (f : WX → Bool) (a : Nat) : Bool := (L.find? fun x => x.g == a).any f
theorem onG_mem {f : WX → Bool} {L : List WX} (hp : L.Pairwise Apart) {x : WX} (hx : x ∈ L) : onG L f x.g = f x := by
  induction L with
  | nil => cases hx
  | cons y L ih =>
    rw [List.pairwise_cons] at hp
    by_cases e : y.g = x.g
    · rcases List.mem_cons.1 hx with rfl | hx
      · simp [onG]
      · exact absurd e (hp.1 x hx).1
    · rcases List.mem_cons.1 hx with rfl | hx
      · exact absurd rfl e
      · have h := ih hp.2 hx
        have hb : (y.g == x.g) = false := by simpa using e
        unfold onG at h ⊢
        rw [List.find?_cons, hb]
        exact h
theorem onG_filter {f : WX → Bool} {L : List WX} (hp : L.Pairwise Apart) : (L.map WX.g).filter (fun a => !onG L f a) = (L.filter fun x => !f x).map WX.g := by
  rw [List.filter_map]
  congr 1
  apply List.filter_congr
  intro x hx
  simp [onG_mem hp hx]
def oldB (wait n : Int) (x : WX) : Bool := decide (wait ≤ n - x.began)
theorem drop1_any (W : World) (g gn gt tb : Nat) (wait n b : Int) (cn : W.cell? ⟨gn, 0, none⟩ = some (.int .i64 n)) (ct : W.cell? ⟨gt, 0, none⟩ = some (PV tb)) (cw : W.cell? ⟨tb, 0, none⟩ = some (.int .i64 wait)) (cb : W.cell? ⟨g, 4, none⟩ = some (.int .i64 b))
    (n0 : 0 ≤ n) (n1 : n ≤ 1099511627776) (b0 : 0 ≤ b) (b1 : b ≤ 1099511627776) :
    Calls Try.prog 25 #[PV g, .pointer (some ⟨gn, 0, none⟩), .pointer (some ⟨gt, 0, none⟩)] W fun e w' => e = .returned (.bool (decide (wait ≤ n - b))) ∧ Below W.heap.size W w' := by
  go_enter Try.func25, Try.ntmps25
  go_wp2_with fail
  go_quiet (fail)
  go_wp2_with fail
  go_ret
  exact ⟨rfl, below_drewN (Below.refl _ _) nq⟩
theorem info_whole : ∃ j, Try.prog.info? 60 = some j ∧ j.size ≠ 0 := by
  have h : (Try.prog.info? 60).map (fun i => i.size) = some 11 := by kernel_rfl
  cases hi : Try.prog.info? 60 with
  | none => rw [hi] at h; simp at h
  | some j => rw [hi] at h; simp at h; exact ⟨j, rfl, by omega⟩
theorem ptr_eq (W : World) (a x : Nat) {ca cx : Array Value} (ha : Blk W a 60 ca) (hx : Blk W x 60 cx) : (binOp .eql 48 (PV a) (PV x)).run Try.prog W = .ok (.bool (a == x)) W := by
  obtain ⟨j, hj, hs⟩ := info_whole
  by_cases h : a = x
  · subst h
    rw [beq_self_eq_true]
    exact run_eql_ptr_same (P := Try.prog) W ⟨a, 0, none⟩ Try.underlying48 hj
  · rw [show (a == x) = false by simpa using h]
    exact run_eql_ptr_other (P := Try.prog) W Try.underlying48 hj hs (by intro e; injection e with e; exact h e) ha hx
theorem forget1_any (W : World) (a x gx : Nat) {ca cw : Array Value} (cx : W.cell? ⟨gx, 0, none⟩ = some (PV x)) (ha : Blk W a 60 ca) (hx : Blk W x 60 cw) :
    Calls Try.prog 30 #[PV a, .pointer (some ⟨gx, 0, none⟩)] W fun e w' => e = .returned (.bool (a == x)) ∧ Below W.heap.size W w' := by
  have hq := ptr_eq W a x ha hx
  generalize (a == x) = b at hq ⊢
  clear ha hx
  go_enter Try.func30, Try.ntmps30
  go_wp2_with fail
  go_ret
  exact ⟨rfl, Below.refl _ _⟩

theorem enters' {f : FuncId} {fn : Func} {cd : Code} (hf : Try.prog.funcs[f]? = some fn) (hname : (fn.name == "runtime.NumGoroutine") = false) (hb : fn.body = some cd) : ∀ args w, (callFunc f args).run Try.prog w = .ok (.enter f args) w := by
  intro args w
  have h1 : fn.name ≠ "runtime.NumGoroutine" := by simpa using hname
  simp [callFunc, hf, h1, hb, mark]
/-- A table of fewer wholes: of the same row. -/
theorem TAt.filtered {w w' : World} {B tb c : Nat} {wait now now' : Int} {A : Option Addr} {L : List WX} (t : TAt w B tb wait now A c L) (f : WX → Bool) (hr : OwnP w' B A c ((L.filter f).map WX.g)) (hb : Blk w' tb 45 #[.int .i64 wait, .int .i64 now', .slice A (L.filter f).length c, .bool true])
    (hf : Frame (TF tb A L.length c) w w') (hn : now ≤ now') : TAt w' B tb wait now' A c (L.filter f) :=
  ⟨hb, hr, fun x hx => (t.each x (List.mem_filter.1 hx).1).framed hf (t.whole_free (List.mem_filter.1 hx).1).1 (t.whole_free (List.mem_filter.1 hx).1).2, fun x hx => t.inv x (List.mem_filter.1 hx).1,
    t.apart.sublist List.filter_sublist, t.base, Int.le_trans t.n0 hn, fun x hx => ⟨(t.bg x (List.mem_filter.1 hx).1).1, Int.le_trans (t.bg x (List.mem_filter.1 hx).1).2 hn⟩, t.w0, t.w1⟩

/-- What forget leaves. -/
def ForgetR (B tb : Nat) (wait now : Int) (A : Option Addr) (c : Nat) (L : List WX) (g : Nat) (w : World) (e : Ending) (w' : World) : Prop :=
  e = .returned (.tuple #[]) ∧ TAt w' B tb wait now A c (L.filter fun x => !(x.g == g)) ∧ Frame (TF tb A L.length c) w w'
set_option maxHeartbeats 4000000 in
set_option maxRecDepth 100000 in
theorem forget_any {w : World} {B tb c : Nat} {wait now : Int} {A : Option Addr} {L : List WX} (t : TAt w B tb wait now A c L) (x : WX) (hx : x ∈ L) (hl : L.length ≤ 1000) :
    Calls Try.prog 19 #[.pointer (some ⟨tb, 0, none⟩), PV x.g] w (ForgetR B tb wait now A c L x.g w) := by
  have hb1 : Below w.heap.size w (w.alloc (.cells #[PV x.g] 48)) := (Below.refl _ _).alloc (Nat.le_refl _) _
  have hbx := blk_new w 48 #[PV x.g]
  have t1 := t.below hb1
  have HT := Lib.hid t
  have HX := Lib.hid hx
  have hlt := t.lt
  clear t hx
  go_enter Try.func19, Try.ntmps19
  have c2 : (w.alloc (.cells #[PV x.g] 48)).cell? ⟨tb, 2, none⟩ = some (.slice A L.length c) := t1.blk.cell 2
  go_upto_region 1 with fail
  generalize w.alloc (.cells #[PV x.g] 48) = w1 at *
  obtain ⟨gx, EGX⟩ : ∃ z, Hid (w.heap.size = z) := ⟨_, rfl⟩
  rw [EGX.out] at hbx ⊢
  have hfil := onG_filter (f := fun y => y.g == x.g) t1.apart
  have DEL := Lib.hid (delete_any 30 #[.pointer (some ⟨gx, 0, none⟩)] (fun a => a == x.g) (L.map WX.g) B A c w1 (enters' Try.func30 (by kernel_rfl) rfl) t1.row
    (fun W a ha hg => by
      obtain ⟨y, hy, rfl⟩ := List.mem_map.1 ha
      have hne : ∀ z ∈ L, some z.g ≠ (Value.slice A (L.map WX.g).length c).ownBlock := fun z hz e => by
        exact owns_ne t1.row (t1.each z hz).blk (by decide) e.symm
      refine forget1_any W y.g x.g gx ?_ ((hg.block y.g (t1.each y hy).blk.lt (hne y hy)).trans (t1.each y hy).blk) ((hg.block x.g (t1.each x HX.out).blk.lt (hne x HX.out)).trans (t1.each x HX.out).blk)
      have hgx : Blk W gx 48 #[PV x.g] := (hg.block gx hbx.lt (fun e => by
        have h1 := (World.ownsRow.lt HT.out.row gx e.symm).2
        have h2 := EGX.out
        omega)).trans hbx
      exact hgx.cell 0) (by simpa using hl))
  rw [List.length_map] at DEL
  have HT1 := Lib.hid t1
  have HFIL := Lib.hid hfil
  have HB1 := Lib.hid hb1
  have HEQ : Hid ((L.map WX.g).filter (fun a => !(a == x.g)) = (L.filter fun y => !(y.g == x.g)).map WX.g) := by
    show _ = _
    rw [List.filter_map]
    rfl
  clear t1 hfil hb1 hbx
  obtain ⟨ll, ELL⟩ : ∃ z, Hid (L.length = z) := ⟨_, rfl⟩
  rw [ELL.out] at c2 DEL
  have hlt1 : tb < w1.heap.size := HT1.out.lt
  go_wp2_with fail
  refine DEL.out.mono ?_
  rintro e w2 ⟨rfl, ho, hg⟩
  have HO : Hid (OwnP w2 B A c ((L.filter fun y => !(y.g == x.g)).map WX.g)) := by have := ho; rw [HEQ.out] at this; exact this
  obtain ⟨fl, EFL⟩ : ∃ z, Hid ((L.filter fun y => !(y.g == x.g)).length = z) := ⟨_, rfl⟩
  have e1 : (List.filter (fun a => !(fun a => a == x.g) a) (L.map WX.g)).length = fl := by rw [← EFL.out, HEQ.out, List.length_map]
  rw [e1]
  have hF : Frame (TF tb A L.length c) w w2 := (Frame.of_below HB1.out).grown hg (fun k hk => .inl (.inr (by rw [List.length_map] at hk; exact hk)))
  have hbt : Blk w2 tb 45 #[.int .i64 wait, .int .i64 now, .slice A L.length c, .bool true] := (hg.block tb hlt1 (fun e => owns_ne HT1.out.row HT1.out.blk (by decide) e.symm)).trans HT1.out.blk
  have HF := Lib.hid hF
  have HBT := Lib.hid hbt
  have z2 : w2.cell? ⟨tb, 2, none⟩ = some (.slice A ll c) := by have := hbt.cell 2; rw [ELL.out] at this; exact this
  have f2 := hbt.free 2
  have q1 : OwnP (w2.setCell ⟨tb, 2, none⟩ (.slice A fl c)) B A c ((L.filter fun y => !(y.g == x.g)).map WX.g) := owns_framed HO.out ((Frame.refl (fun k => k = tb) w2).set (p := ⟨tb, 2, none⟩) (.inl rfl) _) (fun k hk e => by subst e; exact owns_ne HO.out hbt (by decide) hk)
  have q2 : Blk (w2.setCell ⟨tb, 2, none⟩ (.slice A fl c)) tb 45 #[.int .i64 wait, .int .i64 now, .slice A (L.filter fun y => !(y.g == x.g)).length c, .bool true] := by rw [EFL.out]; exact hbt.set 2 _
  have q3 : Frame (TF tb A L.length c) w (w2.setCell ⟨tb, 2, none⟩ (.slice A fl c)) := hF.set (p := ⟨tb, 2, none⟩) (.inl (.inl rfl)) _
  have FIN : Hid (ForgetR B tb wait now A c L x.g w (.returned (.tuple #[])) (w2.setCell ⟨tb, 2, none⟩ (.slice A fl c))) := ⟨rfl, HT.out.filtered _ q1 q2 q3 (Int.le_refl _), q3⟩
  clear ho hg e1 hF hbt c2 hlt1 DEL q1 q2 q3
  go_wp2_with fail
  go_end0
  exact FIN.out
end Go.Proofs.Ytpdkoooecnmjjaa
