/-
  What Add leaves.
-/
import Derived.Test.YtpdkoooecnmjjaaFragP
namespace Go.Proofs.Ytpdkoooecnmjjaa
open Go.RowKit
set_option linter.unusedVariables false

def Pk.k (p : Pk) (x : WX) : Bool := kB p.f p.t p.kind p.id x
/-- Where a piece's bytes lie. -/
def Pk.a (p : Pk) : Nat := (8 * p.at_).toNat
/-- It is whole. -/
def Pk.one (p : Pk) : Prop := p.at_ = 0 ∧ p.mo = false
/-- x at k of L2 is the whole that a piece belongs to, L1 being there. -/
def Found (tm : Int) (p : Pk) (L1 L2 : List WX) (k : Nat) (x : WX) : Prop :=
  L2[k]? = some x ∧ ((L2 = L1 ∧ p.k x = true) ∨ ∃ g, (∀ y ∈ L1, p.k y = false) ∧ L1.length ≠ 8 ∧ L2 = L1 ++ [x] ∧ x = freshX g p.f p.t p.kind p.id tm)
abbrev emptyV : Value := .agg (pkV 0 0 0 0 false false 0 0 none 0 0)
abbrev errR (er : Int) : Ending := .returned (.tuple #[emptyV, .bool false, .int .i64 er])
section
variable (B tb : Nat) (wait now : Int) (A : Option Addr) (c : Nat) (L : List WX) (tm : Int) (p : Pk)
/-- The outcomes without a packet. -/
def AddE (er : Int) (W : World) : Prop :=
  (er ≠ 0 ∧ earlyE now tm p = er ∧ TAt W B tb wait now A c L) ∨
  (earlyE now tm p = 0 ∧ ¬ p.one ∧
    ((er ≠ 0 ∧ midE p = er ∧ TAt W B tb wait tm A c (L.filter fun x => !oldB wait tm x)) ∨
     (midE p = 0 ∧ (∀ y ∈ L.filter (fun x => !oldB wait tm x), p.k y = false) ∧ (L.filter fun x => !oldB wait tm x).length = 8 ∧ er = 4 ∧ TAt W B tb wait tm A c (L.filter fun x => !oldB wait tm x)) ∨
     (midE p = 0 ∧ ∃ A' c' L2 k x, Found tm p (L.filter fun x => !oldB wait tm x) L2 k x ∧
       ((x.pieces = 64 ∧ er = 3 ∧ TAt W B tb wait tm A' c' (L2.filter fun y => !(y.g == x.g))) ∨
        (x.pieces ≠ 64 ∧ clashB x.pure p.a p.d p.mo = true ∧ er = 6 ∧ TAt W B tb wait tm A' c' (L2.filter fun y => !(y.g == x.g))) ∨
        (x.pieces ≠ 64 ∧ clashB x.pure p.a p.d p.mo = false ∧ ∃ x', x'.pure = putP x.pure p.a p.d p.mo ∧ x'.g = x.g ∧ x'.many ≠ x'.fin ∧ er = 0 ∧ TAt W B tb wait tm A' c' (L2.set k x'))))))
/-- The outcomes with a packet that has the bytes bs. -/
def AddP (bs : List UInt8) (W : World) : Prop :=
  earlyE now tm p = 0 ∧
    ((p.one ∧ bs = p.d ∧ TAt W B tb wait tm A c (L.filter fun x => !oldB wait tm x)) ∨
     (¬ p.one ∧ midE p = 0 ∧ ∃ A' c' L2 k x, Found tm p (L.filter fun x => !oldB wait tm x) L2 k x ∧ x.pieces ≠ 64 ∧ clashB x.pure p.a p.d p.mo = false ∧
       ∃ x', x'.pure = putP x.pure p.a p.d p.mo ∧ x'.g = x.g ∧ x'.many = x'.fin ∧ bs = x'.data ∧ TAt W B tb wait tm A' c' ((L2.set k x').filter fun y => !(y.g == x.g))))
def AddR (w : World) (e : Ending) (w' : World) : Prop :=
  Below B w w' ∧ ((∃ er, e = errR er ∧ AddE B tb wait now A c L tm p er w') ∨
    ∃ (bs : List UInt8) (i1 i2 i3 i4 : Int) (b1 b2 : Bool) (i5 i6 : Int) (D : Option Addr) (q : Nat), e = .returned (.tuple #[.agg (pkV i1 i2 i3 i4 b1 b2 i5 i6 D bs.length q), .bool true, .int .i64 0]) ∧ Own w' w.heap.size D q bs ∧ AddP B tb wait now A c L tm p bs w')
end
section
variable {B tb : Nat} {wait now : Int} {A : Option Addr} {c : Nat} {L : List WX} {tm : Int} {p : Pk} {w W W' : World}
theorem AddE.map {er : Int} (h : AddE B tb wait now A c L tm p er W) (f : ∀ n A' c' L', TAt W B tb wait n A' c' L' → TAt W' B tb wait n A' c' L') : AddE B tb wait now A c L tm p er W' := by
  rcases h with ⟨h1, h2, h3⟩ | ⟨h1, h2, ⟨h3, h4, h5⟩ | ⟨h3, h4, h5, h6, h7⟩ | ⟨h3, A', c', L2, k, x, h4, ⟨h5, h6, h7⟩ | ⟨h5, h6, h7, h8⟩ | ⟨h5, h6, x', h7, h8, h9, h10, h11⟩⟩⟩
  · exact .inl ⟨h1, h2, f _ _ _ _ h3⟩
  · exact .inr ⟨h1, h2, .inl ⟨h3, h4, f _ _ _ _ h5⟩⟩
  · exact .inr ⟨h1, h2, .inr (.inl ⟨h3, h4, h5, h6, f _ _ _ _ h7⟩)⟩
  · exact .inr ⟨h1, h2, .inr (.inr ⟨h3, A', c', L2, k, x, h4, .inl ⟨h5, h6, f _ _ _ _ h7⟩⟩)⟩
  · exact .inr ⟨h1, h2, .inr (.inr ⟨h3, A', c', L2, k, x, h4, .inr (.inl ⟨h5, h6, h7, f _ _ _ _ h8⟩)⟩)⟩
  · exact .inr ⟨h1, h2, .inr (.inr ⟨h3, A', c', L2, k, x, h4, .inr (.inr ⟨h5, h6, x', h7, h8, h9, h10, f _ _ _ _ h11⟩)⟩)⟩
theorem AddP.map {bs : List UInt8} (h : AddP B tb wait now A c L tm p bs W) (f : ∀ n A' c' L', TAt W B tb wait n A' c' L' → TAt W' B tb wait n A' c' L') : AddP B tb wait now A c L tm p bs W' := by
  rcases h with ⟨h0, ⟨h1, h2, h3⟩ | ⟨h1, h2, A', c', L2, k, x, h3, h4, h5, x', h6, h7, h8, h9, h10⟩⟩
  · exact ⟨h0, .inl ⟨h1, h2, f _ _ _ _ h3⟩⟩
  · exact ⟨h0, .inr ⟨h1, h2, A', c', L2, k, x, h3, h4, h5, x', h6, h7, h8, h9, f _ _ _ _ h10⟩⟩
end

/-- In the middle of Add: the table, the packet's box, the result's, the packet's bytes. -/
structure AddS (w : World) (B Bd gp gr : Nat) (pv : Array Value) (D : Option Addr) (q : Nat) (d : List UInt8) (tb : Nat) (wait now : Int) (A : Option Addr) (c : Nat) (L : List WX) (W : World) : Prop where
  t : TAt W B tb wait now A c L
  bp : Blk W gp 33 pv
  br : Blk W gr 33 (pkV 0 0 0 0 false false 0 0 none 0 0)
  own : Own W Bd D q d
  ap : ∀ x ∈ L, ∀ k, (Value.slice D d.length q).ownBlock = some k → dblk x ≠ some k
  bel : Below B w W
section
variable {w W W' : World} {B Bd gp gr : Nat} {pv : Array Value} {D : Option Addr} {q : Nat} {d : List UInt8} {tb : Nat} {wait now : Int} {A : Option Addr} {c : Nat} {L : List WX}
theorem AddS.below (s : AddS w B Bd gp gr pv D q d tb wait now A c L W) (hb : Below W.heap.size W W') : AddS w B Bd gp gr pv D q d tb wait now A c L W' :=
  ⟨s.t.below hb, s.bp.below hb s.bp.lt, s.br.below hb s.br.lt, s.own.keep hb, s.ap, s.bel.trans (hb.mono (by have := s.t.base; have := s.t.lt; omega))⟩
theorem AddS.tf (s : AddS w B Bd gp gr pv D q d tb wait now A c L W) {now' : Int} {A' : Option Addr} {c' : Nat} {L' : List WX} (t' : TAt W' B tb wait now' A' c' L') (hF : Frame (TF tb A L.length c) W W') (ha : ∀ x ∈ L', x ∈ L ∨ dblk x = none) : AddS w B Bd gp gr pv D q d tb wait now' A' c' L' W' :=
  ⟨t', s.bp.framed hF (pk_TF s.t s.bp), s.br.framed hF (pk_TF s.t s.br), owns_framed s.own hF (own_TF s.t s.own), (fun x hx k hk h => by
    rcases ha x hx with h1 | h1
    · exact s.ap x h1 k hk h
    · rw [h1] at h; cases h), hF.below s.bel s.t.TFB (by have := s.t.base; have := s.t.lt; omega)⟩
theorem AddS.wf (s : AddS w B Bd gp gr pv D q d tb wait now A c L W) {k : Nat} {x x' : WX} (hk : L[k]? = some x) (hl : Later W.heap.size x x') (ho : WAt W' B x') (hi : Winv x') (hb : x'.began = x.began) (hF : Frame (WF x) W W') : AddS w B Bd gp gr pv D q d tb wait now A c (L.set k x') W' := by
  have hx : x ∈ L := List.mem_of_getElem? hk
  have o := s.t.each x hx
  refine ⟨s.t.changed hk hl ho hi hb hF, s.bp.framed hF (pk_WF o s.bp), s.br.framed hF (pk_WF o s.br), owns_framed s.own hF (own_free s.own o (s.ap x hx)), fun y hy i hi' h => ?_, hF.below s.bel (WF.base o) (by have := s.t.base; have := s.t.lt; omega)⟩
  rcases List.mem_or_eq_of_mem_set hy with h1 | rfl
  · exact s.ap y h1 i hi' h
  · rcases hl.d i h with h2 | h2
    · exact s.ap x hx i hi' h2
    · have := (World.ownsRow.lt s.own i hi').2
      omega
theorem AddS.begin (t : TAt w B tb wait now A c L) (hs : Own w Bd D q d) (hap : ∀ x ∈ L, ∀ k, (Value.slice D d.length q).ownBlock = some k → dblk x ≠ some k) (pv : Array Value) :
    AddS w B Bd w.heap.size (w.heap.size + 1) pv D q d tb wait now A c L ((w.alloc (.cells pv 33)).alloc (.cells (pkV 0 0 0 0 false false 0 0 none 0 0) 33)) := by
  have hb : Below w.heap.size w ((w.alloc (.cells pv 33)).alloc (.cells (pkV 0 0 0 0 false false 0 0 none 0 0) 33)) := ((Below.refl _ _).alloc (Nat.le_refl _) _).alloc (by simp) _
  have h1 := blk_new (w.alloc (.cells pv 33)) 33 (pkV 0 0 0 0 false false 0 0 none 0 0)
  exact ⟨t.below hb, blk_old (blk_new w _ _) _, by simpa using h1, hs.keep hb, hap, hb.mono (by have := t.base; have := t.lt; omega)⟩
theorem frame_eq {w w' : World} {g : Nat} (hg : w.grownBy w' (some g)) : Frame (fun k => k = g) w w' :=
  (Frame.refl _ w).grown hg (fun k hk => .inl (by injection hk with hk; exact hk.symm))
/-- The result's block takes a packet. -/
theorem TAt.taken (t : TAt W B tb wait now A c L) {cs : Array Value} (h : Blk W gr 33 cs) (a b c' d' : Int) (e f : Bool) (g i : Int) (D' : Option Addr) (n q' : Nat) (hk : Blk W' gr 33 (pkV a b c' d' e f g i D' n q')) (hg : W.grownBy W' (some gr)) : TAt W' B tb wait now A c L :=
  t.resulted h (frame_eq hg) hk
theorem AddE.taken {tm : Int} {p : Pk} {er : Int} (hE : AddE B tb wait now A c L tm p er W) {cs : Array Value} (h : Blk W gr 33 cs) (a b c' d' : Int) (e f : Bool) (g i : Int) (D' : Option Addr) (n q' : Nat) (hk : Blk W' gr 33 (pkV a b c' d' e f g i D' n q')) (hg : W.grownBy W' (some gr)) : AddE B tb wait now A c L tm p er W' :=
  hE.map (fun _ _ _ _ t => t.resulted h (frame_eq hg) hk)
theorem AddP.taken {tm : Int} {p : Pk} {bs : List UInt8} (hE : AddP B tb wait now A c L tm p bs W) {cs : Array Value} (h : Blk W gr 33 cs) (a b c' d' : Int) (e f : Bool) (g i : Int) (D' : Option Addr) (n q' : Nat) (hk : Blk W' gr 33 (pkV a b c' d' e f g i D' n q')) (hg : W.grownBy W' (some gr)) : AddP B tb wait now A c L tm p bs W' :=
  hE.map (fun _ _ _ _ t => t.resulted h (frame_eq hg) hk)
theorem AddS.result (s : AddS w B Bd gp gr pv D q d tb wait now A c L W) (hB : B ≤ w.heap.size) (hg : B ≤ gr) (a b c' d' : Int) (e f : Bool) (g i : Int) (D' : Option Addr) (n q' : Nat) :
    ∀ W', Blk W' gr 33 (pkV a b c' d' e f g i D' n q') → W.grownBy W' (some gr) → Below B w W' ∧ ∀ n A' c' L', TAt W B tb wait n A' c' L' → TAt W' B tb wait n A' c' L' := by
  intro W' hb hg'
  have hF : Frame (fun k => k = gr) W W' := (Frame.refl _ W).grown hg' (fun k hk => .inl (by injection hk with hk; exact hk.symm))
  exact ⟨below_grown s.bel hg' hB hg, fun n A' c' L' t => t.resulted s.br hF hb⟩
/-- What find leaves, the two good cases as one. -/
theorem AddS.find (s : AddS w B Bd gp gr pv D q d tb wait now A c L W) (p : Pk) {e : Ending} (h : FindR B tb wait now A c L p.f p.t p.kind p.id W e W') :
    ((∀ y ∈ L, p.k y = false) ∧ L.length = 8 ∧ e = .returned (.tuple #[.pointer none, .int .i64 4]) ∧ AddS w B Bd gp gr pv D q d tb wait now A c L W') ∨
    ∃ A' c' L2 k x, Found now p L L2 k x ∧ e = .returned (.tuple #[PV x.g, .int .i64 0]) ∧ AddS w B Bd gp gr pv D q d tb wait now A' c' L2 W' := by
  rcases h with ⟨k, x, h1, h2, h3, h4, h5⟩ | ⟨h1, h2, h3, h4⟩ | ⟨h1, h2, g, A', c', h3, h4, h5, h6⟩
  · exact .inr ⟨A, c, L, k, x, ⟨h1, .inl ⟨rfl, h2⟩⟩, h4, s.below h5⟩
  · exact .inl ⟨h1, h2, h3, s.below h4⟩
  · refine .inr ⟨A', c', _, L.length, freshX g p.f p.t p.kind p.id now, ⟨by simp, .inr ⟨g, h1, h2, rfl, rfl⟩⟩, h3, s.tf h4 h5 (fun x hx => ?_)⟩
    rcases List.mem_append.1 hx with h | h
    · exact .inl h
    · rw [List.mem_singleton.1 h]
      exact .inr rfl
end
end Go.Proofs.Ytpdkoooecnmjjaa
