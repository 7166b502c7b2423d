/-
  eth.Read's good case.
-/
import Derived.Test.YthchjfkbaocoiaaEthK
namespace Go.Proofs.Ythchjfkbaocoiaa
open Go.RowKit
set_option linter.unusedVariables false

theorem cell_alloc_drew {w : World} {o : Obj} {p : Addr} {v : Value} (h : w.cell? p = some v) : (w.alloc o).drew.cell? p = some v := cell_alloc_old (o := o) h
theorem u16_two (a b : UInt8) : bits .or .u16 (IntKind.u16.wrap (IntKind.u16.wrap (a.toNat : Int) * 256)) (IntKind.u16.wrap (b.toNat : Int)) = 256 * (a.toNat : Int) + (b.toNat : Int) := by
  have ha := a.toNat_lt
  have hb := b.toNat_lt
  have e1 : IntKind.u16.wrap (IntKind.u16.wrap (a.toNat : Int) * 256) = ((a.toNat * 256 : Nat) : Int) := by simp [IntKind.wrap, IntKind.bits, IntKind.signed]; omega
  have e2 : IntKind.u16.wrap (b.toNat : Int) = ((b.toNat : Nat) : Int) := by simp [IntKind.wrap, IntKind.bits, IntKind.signed]; omega
  rw [e1, e2, u16_or_nat _ _ (by omega) (by omega)]
  have := Nat.shiftLeft_add_eq_or_of_lt (show b.toNat < 2 ^ 8 by omega) a.toNat
  rw [Nat.shiftLeft_eq] at this
  rw [show a.toNat * 256 = a.toNat * 2 ^ 8 from rfl, ← this]
  omega
theorem own_grown_ne {w w' : World} {B g c : Nat} {A : Option Addr} {xs : List UInt8} {t : TypeId} {cs : Array Value} (h : Own w B A c xs) (hb : Blk w g t cs) (ht : t ≠ 5) (hg : w.grownBy w' (some g)) : Own w' B A c xs := h.grown hb ht hg
theorem cell_drew0 {w : World} {p : Addr} {v : Value} (h : w.cell? p = some v) : w.drew.cell? p = some v := h
theorem arr_at (a : Option Addr) (cc : Nat) (W : World) : (Instr.arrayAt 23 (.slice a 6 cc)).run Try.prog W = .ok (.pointer a) W := by kernel_rfl
set_option maxHeartbeats 4000000 in
set_option maxRecDepth 100000 in
theorem read_good0 (y0 y1 y2 y3 y4 y5 y6 y7 y8 y9 y10 y11 y12 y13 : UInt8) (b off n c : Nat) (ds : List UInt8) (w : World) (h0 : 60 ≤ n) (h1 : n ≤ 1514) (hc : n ≤ c) (hl : ds.length = n - 14) (hs : Sl w (some ⟨b, off + 14, none⟩) (c - 14) ds) (e0 : w.cell? ⟨b, off, none⟩ = some (.int .u8 (y0.toNat : Int))) (e1 : w.cell? ⟨b, off + 1, none⟩ = some (.int .u8 (y1.toNat : Int))) (e2 : w.cell? ⟨b, off + 2, none⟩ = some (.int .u8 (y2.toNat : Int))) (e3 : w.cell? ⟨b, off + 3, none⟩ = some (.int .u8 (y3.toNat : Int))) (e4 : w.cell? ⟨b, off + 4, none⟩ = some (.int .u8 (y4.toNat : Int))) (e5 : w.cell? ⟨b, off + 5, none⟩ = some (.int .u8 (y5.toNat : Int))) (e6 : w.cell? ⟨b, off + 6, none⟩ = some (.int .u8 (y6.toNat : Int))) (e7 : w.cell? ⟨b, off + 7, none⟩ = some (.int .u8 (y7.toNat : Int))) (e8 : w.cell? ⟨b, off + 8, none⟩ = some (.int .u8 (y8.toNat : Int))) (e9 : w.cell? ⟨b, off + 9, none⟩ = some (.int .u8 (y9.toNat : Int))) (e10 : w.cell? ⟨b, off + 10, none⟩ = some (.int .u8 (y10.toNat : Int))) (e11 : w.cell? ⟨b, off + 11, none⟩ = some (.int .u8 (y11.toNat : Int))) (e12 : w.cell? ⟨b, off + 12, none⟩ = some (.int .u8 (y12.toNat : Int))) (e13 : w.cell? ⟨b, off + 13, none⟩ = some (.int .u8 (y13.toNat : Int))) :
    Calls Try.prog 23 #[.slice (some ⟨b, off, none⟩) n c] w (fun e w' => ∃ X x, e = .returned (.tuple #[.agg #[.int .u8 (y0.toNat : Int), .int .u8 (y1.toNat : Int), .int .u8 (y2.toNat : Int), .int .u8 (y3.toNat : Int), .int .u8 (y4.toNat : Int), .int .u8 (y5.toNat : Int), .int .u8 (y6.toNat : Int), .int .u8 (y7.toNat : Int), .int .u8 (y8.toNat : Int), .int .u8 (y9.toNat : Int), .int .u8 (y10.toNat : Int), .int .u8 (y11.toNat : Int), .int .u16 (256 * (y12.toNat : Int) + (y13.toNat : Int)), .slice X (n - 14) x], .int .i64 0]) ∧ Own w' w.heap.size X x ds ∧ Below w.heap.size w w') := by
  have hb : Below w.heap.size w (w.alloc (.cells #[.int .u8 0, .int .u8 0, .int .u8 0, .int .u8 0, .int .u8 0, .int .u8 0, .int .u8 0, .int .u8 0, .int .u8 0, .int .u8 0, .int .u8 0, .int .u8 0, .int .u16 0, .slice none 0 0] 37)) := (Below.refl _ _).alloc (Nat.le_refl _) _
  have hx := blk_new w 37 #[.int .u8 0, .int .u8 0, .int .u8 0, .int .u8 0, .int .u8 0, .int .u8 0, .int .u8 0, .int .u8 0, .int .u8 0, .int .u8 0, .int .u8 0, .int .u8 0, .int .u16 0, .slice none 0 0]
  have nb0 : b ≠ w.heap.size := by have := World.block_lt_of_cell? w _ e0; simp at this; omega
  have g0 := keep_below hb _ _ e0
  have g1 := keep_below hb _ _ e1
  have g2 := keep_below hb _ _ e2
  have g3 := keep_below hb _ _ e3
  have g4 := keep_below hb _ _ e4
  have g5 := keep_below hb _ _ e5
  have g6 := keep_below hb _ _ e6
  have g7 := keep_below hb _ _ e7
  have g8 := keep_below hb _ _ e8
  have g9 := keep_below hb _ _ e9
  have g10 := keep_below hb _ _ e10
  have g11 := keep_below hb _ _ e11
  have g12 := keep_below hb _ _ e12
  have g13 := keep_below hb _ _ e13
  have HB := Lib.hid hb
  have HX := Lib.hid hx
  have HS := Lib.hid (hs.below hb)
  have HL := Lib.hid hl
  clear hb hx hs hl e0 e1 e2 e3 e4 e5 e6 e7 e8 e9 e10 e11 e12 e13
  have j0 : ¬ (n : Int) < 60 := by omega
  have j1 : ¬ (1514 : Int) < n := by omega
  have j2 : (6 : Int) ≤ (c : Int) := by omega
  have j3 : (12 : Int) ≤ (c : Int) := by omega
  have j4 : (14 : Int) ≤ (c : Int) := by omega
  have j5 : (12 : Int) < (n : Int) := by omega
  have j6 : (13 : Int) < (n : Int) := by omega
  have j7 : (14 : Int) ≤ (n : Int) := by omega
  have j8 : ¬ c = 6 := by omega
  have j9 : ¬ c = 14 := by omega
  have ar := arr_at
  have z12 := y12.toNat_lt
  have z13 := y13.toNat_lt
  go_enter Try.func23, Try.ntmps23
  go_upto_region 1 with fail
  generalize w.alloc (.cells #[.int .u8 0, .int .u8 0, .int .u8 0, .int .u8 0, .int .u8 0, .int .u8 0, .int .u8 0, .int .u8 0, .int .u8 0, .int .u8 0, .int .u8 0, .int .u8 0, .int .u16 0, .slice none 0 0] 37) = w1 at *
  go_wp2_with fail
  have lb := World.block_lt_of_cell? w1 _ g0
  simp at lb
  refine wp_region_held_drew (S := fun w' => w'.cell? ⟨b, off, none⟩ = some (.int .u8 (y0.toNat : Int)) ∧ w'.cell? ⟨b, off + 1, none⟩ = some (.int .u8 (y1.toNat : Int)) ∧ w'.cell? ⟨b, off + 2, none⟩ = some (.int .u8 (y2.toNat : Int)) ∧ w'.cell? ⟨b, off + 3, none⟩ = some (.int .u8 (y3.toNat : Int)) ∧ w'.cell? ⟨b, off + 4, none⟩ = some (.int .u8 (y4.toNat : Int)) ∧ w'.cell? ⟨b, off + 5, none⟩ = some (.int .u8 (y5.toNat : Int)) ∧ w'.cell? ⟨b, off + 6, none⟩ = some (.int .u8 (y6.toNat : Int)) ∧ w'.cell? ⟨b, off + 7, none⟩ = some (.int .u8 (y7.toNat : Int)) ∧ w'.cell? ⟨b, off + 8, none⟩ = some (.int .u8 (y8.toNat : Int)) ∧ w'.cell? ⟨b, off + 9, none⟩ = some (.int .u8 (y9.toNat : Int)) ∧ w'.cell? ⟨b, off + 10, none⟩ = some (.int .u8 (y10.toNat : Int)) ∧ w'.cell? ⟨b, off + 11, none⟩ = some (.int .u8 (y11.toNat : Int)) ∧ w'.cell? ⟨b, off + 12, none⟩ = some (.int .u8 (y12.toNat : Int)) ∧ w'.cell? ⟨b, off + 13, none⟩ = some (.int .u8 (y13.toNat : Int))) (by kernel_rfl) ?_ (fun hHeld => ?_)
  · exact ⟨g0, g1, g2, g3, g4, g5, g6, g7, g8, g9, g10, g11, g12, g13⟩
  refine wpAnyH_take (i := 0) (v := ?_) rfl (by kernel_rfl) (by kernel_rfl) (by kernel_rfl) (fun _ _ _ h => h) (Or.inl ⟨by rfl, ?_⟩) (by assumption) ?_
  rotate_left
  · intro w hSw
    (try dsimp only at hSw)
    go_simp
    try with_reducible rfl
  try simp only [Act.put, List.getElem_toArray, List.getElem_cons_zero, List.setIfInBounds_toArray, List.set_cons_zero, List.set_cons_succ]
  refine wpAnyH_take (i := 1) (v := ?_) rfl (by kernel_rfl) (by kernel_rfl) (by kernel_rfl) (fun _ _ _ h => h) (Or.inl ⟨by rfl, ?_⟩) (by assumption) ?_
  rotate_left
  · intro w hSw
    (try dsimp only at hSw)
    go_simp
    try with_reducible rfl
  try simp only [Act.put, List.getElem_toArray, List.getElem_cons_zero, List.getElem_cons_succ, List.setIfInBounds_toArray, List.set_cons_zero, List.set_cons_succ]
  refine wpAnyH_take (i := 2) (v := ?_) rfl (by kernel_rfl) (by kernel_rfl) (by kernel_rfl) (fun _ _ _ h => h) (Or.inl ⟨by rfl, ?_⟩) (by assumption) ?_
  rotate_left
  · intro w hSw
    (try dsimp only at hSw)
    go_simp
    try with_reducible rfl
  try simp only [Act.put, List.getElem_toArray, List.getElem_cons_zero, List.getElem_cons_succ, List.setIfInBounds_toArray, List.set_cons_zero, List.set_cons_succ]
  refine wpAnyH_take (i := 3) (v := ?_) rfl (by kernel_rfl) (by kernel_rfl) (by kernel_rfl) (fun _ _ _ h => h) (Or.inl ⟨by rfl, ?_⟩) (by assumption) ?_
  rotate_left
  · intro w hSw
    (try dsimp only at hSw)
    go_simp
    try with_reducible rfl
  try simp only [Act.put, List.getElem_toArray, List.getElem_cons_zero, List.getElem_cons_succ, List.setIfInBounds_toArray, List.set_cons_zero, List.set_cons_succ]
  refine wpAnyH_take (i := 4) (v := ?_) rfl (by kernel_rfl) (by kernel_rfl) (by kernel_rfl) (fun _ _ _ h => h) (Or.inl ⟨by rfl, ?_⟩) (by assumption) ?_
  rotate_left
  · intro w hSw
    (try dsimp only at hSw)
    go_simp
    try with_reducible rfl
  try simp only [Act.put, List.getElem_toArray, List.getElem_cons_zero, List.getElem_cons_succ, List.setIfInBounds_toArray, List.set_cons_zero, List.set_cons_succ]
  refine wpAnyH_take (i := 5) (v := ?_) rfl (by kernel_rfl) (by kernel_rfl) (by kernel_rfl) (fun _ _ _ h => h) (Or.inl ⟨by rfl, ?_⟩) (by assumption) ?_
  rotate_left
  · intro w hSw
    (try dsimp only at hSw)
    go_simp
    try with_reducible rfl
  try simp only [Act.put, List.getElem_toArray, List.getElem_cons_zero, List.getElem_cons_succ, List.setIfInBounds_toArray, List.set_cons_zero, List.set_cons_succ]
  refine wpAnyH_take (i := 6) (v := ?_) rfl (by kernel_rfl) (by kernel_rfl) (by kernel_rfl) (fun _ _ _ h => h) (Or.inl ⟨by rfl, ?_⟩) (by assumption) ?_
  rotate_left
  · intro w hSw
    (try dsimp only at hSw)
    go_simp
    try with_reducible rfl
  try simp only [Act.put, List.getElem_toArray, List.getElem_cons_zero, List.getElem_cons_succ, List.setIfInBounds_toArray, List.set_cons_zero, List.set_cons_succ]
  refine wpAnyH_take (i := 7) (v := ?_) rfl (by kernel_rfl) (by kernel_rfl) (by kernel_rfl) (fun _ _ _ h => h) (Or.inl ⟨by rfl, ?_⟩) (by assumption) ?_
  rotate_left
  · intro w hSw
    (try dsimp only at hSw)
    go_simp
    try with_reducible rfl
  try simp only [Act.put, List.getElem_toArray, List.getElem_cons_zero, List.getElem_cons_succ, List.setIfInBounds_toArray, List.set_cons_zero, List.set_cons_succ]
  refine wpAnyH_take (i := 8) (v := ?_) rfl (by kernel_rfl) (by kernel_rfl) (by kernel_rfl) (fun _ _ _ h => h) (Or.inl ⟨by rfl, ?_⟩) (by assumption) ?_
  rotate_left
  · intro w hSw
    (try dsimp only at hSw)
    go_simp
    try with_reducible rfl
  try simp only [Act.put, List.getElem_toArray, List.getElem_cons_zero, List.getElem_cons_succ, List.setIfInBounds_toArray, List.set_cons_zero, List.set_cons_succ]
  refine wpAnyH_take (i := 9) (v := ?_) rfl (by kernel_rfl) (by kernel_rfl) (by kernel_rfl) (fun _ _ _ h => h) (Or.inl ⟨by rfl, ?_⟩) (by assumption) ?_
  rotate_left
  · intro w hSw
    (try dsimp only at hSw)
    go_simp
    try with_reducible rfl
  try simp only [Act.put, List.getElem_toArray, List.getElem_cons_zero, List.getElem_cons_succ, List.setIfInBounds_toArray, List.set_cons_zero, List.set_cons_succ]
  refine wpAnyH_take (i := 10) (v := ?_) rfl (by kernel_rfl) (by kernel_rfl) (by kernel_rfl) (fun _ _ _ h => h) (Or.inl ⟨by rfl, ?_⟩) (by assumption) ?_
  rotate_left
  · intro w hSw
    (try dsimp only at hSw)
    go_simp
    try with_reducible rfl
  try simp only [Act.put, List.getElem_toArray, List.getElem_cons_zero, List.getElem_cons_succ, List.setIfInBounds_toArray, List.set_cons_zero, List.set_cons_succ]
  refine wpAnyH_take (i := 11) (v := ?_) rfl (by kernel_rfl) (by kernel_rfl) (by kernel_rfl) (fun _ _ _ h => h) (Or.inl ⟨by rfl, ?_⟩) (by assumption) ?_
  rotate_left
  · intro w hSw
    (try dsimp only at hSw)
    go_simp
    try with_reducible rfl
  try simp only [Act.put, List.getElem_toArray, List.getElem_cons_zero, List.getElem_cons_succ, List.setIfInBounds_toArray, List.set_cons_zero, List.set_cons_succ]
  refine wpAnyH_take (i := 12) (v := ?_) rfl (by kernel_rfl) (by kernel_rfl) (by kernel_rfl) (fun _ _ _ h => h) (Or.inl ⟨by rfl, ?_⟩) (by assumption) ?_
  rotate_left
  · intro w hSw
    (try dsimp only at hSw)
    go_simp
    try with_reducible rfl
  try simp only [Act.put, List.getElem_toArray, List.getElem_cons_zero, List.getElem_cons_succ, List.setIfInBounds_toArray, List.set_cons_zero, List.set_cons_succ]
  refine wpAnyH_take (i := 13) (v := ?_) rfl (by kernel_rfl) (by kernel_rfl) (by kernel_rfl) (fun _ _ _ h => h) (Or.inl ⟨by rfl, ?_⟩) (by assumption) ?_
  rotate_left
  · intro w hSw
    (try dsimp only at hSw)
    go_simp
    try with_reducible rfl
  try simp only [Act.put, List.getElem_toArray, List.getElem_cons_zero, List.getElem_cons_succ, List.setIfInBounds_toArray, List.set_cons_zero, List.set_cons_succ]
  refine wpAnyH_take (i := 14) (v := ?_) rfl (by kernel_rfl) (by kernel_rfl) (by kernel_rfl) (fun _ _ _ h => h) (Or.inl ⟨by rfl, ?_⟩) (by assumption) ?_
  rotate_left
  · intro w hSw
    (try dsimp only at hSw)
    go_simp
    try with_reducible rfl
  try simp only [Act.put, List.getElem_toArray, List.getElem_cons_zero, List.getElem_cons_succ, List.setIfInBounds_toArray, List.set_cons_zero, List.set_cons_succ]
  refine wpAnyH_take (i := 15) (v := ?_) rfl (by kernel_rfl) (by kernel_rfl) (by kernel_rfl) (fun _ _ _ h => h) (Or.inl ⟨by rfl, ?_⟩) (by assumption) ?_
  rotate_left
  · intro w hSw
    (try dsimp only at hSw)
    go_simp
    try with_reducible rfl
  try simp only [Act.put, List.getElem_toArray, List.getElem_cons_zero, List.getElem_cons_succ, List.setIfInBounds_toArray, List.set_cons_zero, List.set_cons_succ]
  refine wpAnyH_take (i := 16) (v := ?_) rfl (by kernel_rfl) (by kernel_rfl) (by kernel_rfl) (fun _ _ _ h => h) (Or.inl ⟨by rfl, ?_⟩) (by assumption) ?_
  rotate_left
  · intro w hSw
    (try dsimp only at hSw)
    go_simp
    try with_reducible rfl
  try simp only [Act.put, List.getElem_toArray, List.getElem_cons_zero, List.getElem_cons_succ, List.setIfInBounds_toArray, List.set_cons_zero, List.set_cons_succ]
  refine wpAnyH_take (i := 17) (v := ?_) rfl (by kernel_rfl) (by kernel_rfl) (by kernel_rfl) (fun _ _ _ h => h) (Or.inl ⟨by rfl, ?_⟩) (by assumption) ?_
  rotate_left
  · intro w hSw
    (try dsimp only at hSw)
    go_simp
    try with_reducible rfl
  try simp only [Act.put, List.getElem_toArray, List.getElem_cons_zero, List.getElem_cons_succ, List.setIfInBounds_toArray, List.set_cons_zero, List.set_cons_succ]
  refine wpAnyH_take (i := 19) (v := ?_) rfl (by kernel_rfl) (by kernel_rfl) (by kernel_rfl) (fun _ _ _ h => h) (Or.inl ⟨by rfl, ?_⟩) (by assumption) ?_
  rotate_left
  · intro w hSw
    (try dsimp only at hSw)
    go_simp
    try with_reducible rfl
  try simp only [Act.put, List.getElem_toArray, List.getElem_cons_zero, List.getElem_cons_succ, List.setIfInBounds_toArray, List.set_cons_zero, List.set_cons_succ]
  refine wpAnyH_take (i := 20) (v := ?_) rfl (by kernel_rfl) (by kernel_rfl) (by kernel_rfl) (fun _ _ _ h => h) (Or.inl ⟨by rfl, ?_⟩) (by assumption) ?_
  rotate_left
  · intro w hSw
    (try dsimp only at hSw)
    go_simp
    try with_reducible rfl
  try simp only [Act.put, List.getElem_toArray, List.getElem_cons_zero, List.getElem_cons_succ, List.setIfInBounds_toArray, List.set_cons_zero, List.set_cons_succ]
  refine wpAnyH_ready (rs := [18]) (by kernel_rfl) (by simp) ?_
  refine AllReadyH.cons rfl (fun K hK => ?_) AllReadyH.nil
  go_simp
  refine hK _ _ ?_ (fun hHeld => ?_)
  · exact ⟨cell_alloc_drew g0, cell_alloc_drew g1, cell_alloc_drew g2, cell_alloc_drew g3, cell_alloc_drew g4, cell_alloc_drew g5, cell_alloc_drew g6, cell_alloc_drew g7, cell_alloc_drew g8, cell_alloc_drew g9, cell_alloc_drew g10, cell_alloc_drew g11, cell_alloc_drew g12, cell_alloc_drew g13⟩
  clear hK K
  try simp only [Act.put, List.getElem_toArray, List.getElem_cons_zero, List.getElem_cons_succ, List.setIfInBounds_toArray, List.set_cons_zero, List.set_cons_succ]
  refine wpAnyH_ready (rs := [21]) (by kernel_rfl) (by simp) ?_
  refine AllReadyH.cons rfl (fun K hK => ?_) AllReadyH.nil
  refine step_appn _ (by rfl) _ _ (by rfl) w1.heap.size _ 0 [] 0 rfl (by rfl) ?own _ (c - 14) ds _ HL.out (by rfl) ?src (by rw [HL.out]; simp; omega) (by simp; try omega) ?_
  case own => exact own_nil_blk (blk_top (by simp)) (by simp)
  case src => exact HS.out.below below_d1
  intro A2 c2 w4 hown1 hgrow
  have hm := blk_past HX.out hgrow
  have HC : Hid (∀ o v, w1.cell? ⟨b, o, none⟩ = some v → w4.cell? ⟨b, o, none⟩ = some v) := fun o v h => by
    rw [hgrow.cell_far _ (by simp; omega) (by simp [Value.ownBlock]; omega)]
    exact cell_alloc_drew h
  refine hK _ _ ?_ (fun hHeld => ?_)
  · exact ⟨HC.out _ _ g0, HC.out _ _ g1, HC.out _ _ g2, HC.out _ _ g3, HC.out _ _ g4, HC.out _ _ g5, HC.out _ _ g6, HC.out _ _ g7, HC.out _ _ g8, HC.out _ _ g9, HC.out _ _ g10, HC.out _ _ g11, HC.out _ _ g12, HC.out _ _ g13⟩
  clear hK K
  try simp only [Act.put, List.getElem_toArray, List.getElem_cons_zero, List.getElem_cons_succ, List.setIfInBounds_toArray, List.set_cons_zero, List.set_cons_succ]
  refine wpAnyH_take (i := 22) (v := ?_) rfl (by kernel_rfl) (by kernel_rfl) (by kernel_rfl) (fun _ _ _ h => h) (Or.inl ⟨by rfl, ?_⟩) (by assumption) ?_
  rotate_left
  · intro w hSw
    (try dsimp only at hSw)
    go_simp
    try with_reducible rfl
  try simp only [Act.put, List.getElem_toArray, List.getElem_cons_zero, List.getElem_cons_succ, List.setIfInBounds_toArray, List.set_cons_zero, List.set_cons_succ]
  obtain ⟨m0, m1, m2, m3, m4, m5, m6, m7, m8, m9, m10, m11, m12, m13⟩ := hm.cells14
  obtain ⟨f0, f1, f2, f3, f4, f5, f6, f7, f8, f9, f10, f11, f12, f13⟩ := hm.frees14
  replace hm := Lib.hid hm
  have hbb : Below w1.heap.size w1 w4 := below_grown below_d1 hgrow (Nat.le_refl _) (by simp)
  have st := hm.out.store14 (.int .u8 (y0.toNat : Int)) (.int .u8 (y1.toNat : Int)) (.int .u8 (y2.toNat : Int)) (.int .u8 (y3.toNat : Int)) (.int .u8 (y4.toNat : Int)) (.int .u8 (y5.toNat : Int)) (.int .u8 (y6.toNat : Int)) (.int .u8 (y7.toNat : Int)) (.int .u8 (y8.toNat : Int)) (.int .u8 (y9.toNat : Int)) (.int .u8 (y10.toNat : Int)) (.int .u8 (y11.toNat : Int)) (.int .u16 (bits .or .u16 (IntKind.u16.wrap (IntKind.u16.wrap (y12.toNat : Int) * 256)) (IntKind.u16.wrap (y13.toNat : Int)))) (.slice A2 (n - 14) c2)
  have HO := Lib.hid ((hown1.grown hm.out (by decide) st.2).base HB.out.size)
  have HF := Lib.hid (below_grown (HB.out.trans (hbb.mono HB.out.size)) st.2 (Nat.le_refl _) (Nat.le_refl _))
  have HG := Lib.hid st.2
  have lb4 : b < w4.heap.size := by have := hgrow.size; simp at this; omega
  have HK := Lib.hid st.1
  clear st hbb hown1 hgrow
  refine wpAnyH_ready (rs := [23]) (by kernel_rfl) (by simp) ?_
  refine AllReadyH.cons rfl (fun K hK => ?_) AllReadyH.nil
  go_simp
  refine hK _ _ ?_ (fun hHeld => ?_)
  · exact ⟨(HG.out.cell_far _ (by simp; omega) (by simp; omega)).trans (HC.out _ _ g0), (HG.out.cell_far _ (by simp; omega) (by simp; omega)).trans (HC.out _ _ g1), (HG.out.cell_far _ (by simp; omega) (by simp; omega)).trans (HC.out _ _ g2), (HG.out.cell_far _ (by simp; omega) (by simp; omega)).trans (HC.out _ _ g3), (HG.out.cell_far _ (by simp; omega) (by simp; omega)).trans (HC.out _ _ g4), (HG.out.cell_far _ (by simp; omega) (by simp; omega)).trans (HC.out _ _ g5), (HG.out.cell_far _ (by simp; omega) (by simp; omega)).trans (HC.out _ _ g6), (HG.out.cell_far _ (by simp; omega) (by simp; omega)).trans (HC.out _ _ g7), (HG.out.cell_far _ (by simp; omega) (by simp; omega)).trans (HC.out _ _ g8), (HG.out.cell_far _ (by simp; omega) (by simp; omega)).trans (HC.out _ _ g9), (HG.out.cell_far _ (by simp; omega) (by simp; omega)).trans (HC.out _ _ g10), (HG.out.cell_far _ (by simp; omega) (by simp; omega)).trans (HC.out _ _ g11), (HG.out.cell_far _ (by simp; omega) (by simp; omega)).trans (HC.out _ _ g12), (HG.out.cell_far _ (by simp; omega) (by simp; omega)).trans (HC.out _ _ g13)⟩
  clear hK K m0 m1 m2 m3 m4 m5 m6 m7 m8 m9 m10 m11 m12 m13 f0 f1 f2 f3 f4 f5 f6 f7 f8 f9 f10 f11 f12 f13 hm HC g0 g1 g2 g3 g4 g5 g6 g7 g8 g9 g10 g11 g12 g13
  generalize World.setCell _ _ (Value.slice A2 (n - 14) c2) = w5 at *
  try simp only [Act.put, List.getElem_toArray, List.getElem_cons_zero, List.getElem_cons_succ, List.setIfInBounds_toArray, List.set_cons_zero, List.set_cons_succ]
  refine wpAnyH_take (i := 24) (v := ?_) rfl (by kernel_rfl) (by kernel_rfl) (by kernel_rfl) (fun _ _ _ h => h) (Or.inl ⟨by rfl, ?_⟩) (by assumption) ?_
  rotate_left
  · intro w hSw
    (try dsimp only at hSw)
    go_simp
    try with_reducible rfl
  try simp only [Act.put, List.getElem_toArray, List.getElem_cons_zero, List.getElem_cons_succ, List.setIfInBounds_toArray, List.set_cons_zero, List.set_cons_succ]
  refine wpAnyH_done (by kernel_rfl) ?_ _
  have U := Lib.hid (u16_two y12 y13)
  rw [U.out] at HK
  obtain ⟨d0, d1, d2, d3, d4, d5, d6, d7, d8, d9, d10, d11, d12, d13⟩ := HK.out.cells14
  go_wp2_with fail
  exact bodyPost_ret (v := .tuple #[.agg #[.int .u8 (y0.toNat : Int), .int .u8 (y1.toNat : Int), .int .u8 (y2.toNat : Int), .int .u8 (y3.toNat : Int), .int .u8 (y4.toNat : Int), .int .u8 (y5.toNat : Int), .int .u8 (y6.toNat : Int), .int .u8 (y7.toNat : Int), .int .u8 (y8.toNat : Int), .int .u8 (y9.toNat : Int), .int .u8 (y10.toNat : Int), .int .u8 (y11.toNat : Int), .int .u16 (256 * (y12.toNat : Int) + (y13.toNat : Int)), .slice A2 (n - 14) c2], .int .i64 0]) (by simp [results, Try.results23, go_sem, d0, d1, d2, d3, d4, d5, d6, d7, d8, d9, d10, d11, d12, d13]) rfl ⟨A2, c2, rfl, HO.out, HF.out⟩

theorem take6_0 : ∀ (l : List UInt8), 6 ≤ l.length → l.take 6 = [l.getD 0 0, l.getD 1 0, l.getD 2 0, l.getD 3 0, l.getD 4 0, l.getD 5 0]
  | [], h => by simp at h
  | [_], h => by simp at h
  | [_, _], h => by simp at h
  | [_, _, _], h => by simp at h
  | [_, _, _, _], h => by simp at h
  | [_, _, _, _, _], h => by simp at h
  | a :: b :: c :: d :: e :: f :: r, _ => rfl
theorem take6 (l : List UInt8) (k : Nat) (h : k + 6 ≤ l.length) : (l.drop k).take 6 = [l.getD (k + 0) 0, l.getD (k + 1) 0, l.getD (k + 2) 0, l.getD (k + 3) 0, l.getD (k + 4) 0, l.getD (k + 5) 0] := by
  rw [take6_0 _ (by rw [List.length_drop]; omega)]
  simp only [List.getD_eq_getElem?_getD, List.getElem?_drop]
theorem read_good (A : Option Addr) (bs : List UInt8) (n c : Nat) (w : World) (hn : bs.length = n) (hs : Sl w A c bs) (hw : okLen n) :
    Calls Try.prog 23 #[.slice A n c] w (EGot bs w) := by
  obtain ⟨h0, h1⟩ := hw
  have hk : okLen bs.length := by rw [hn]; exact ⟨h0, h1⟩
  obtain ⟨b, off, rfl, hc⟩ := hs.1.at_ (by omega)
  have hd := hs.drop 14
  simp only [Option.map_some, add_lit'] at hd
  refine (read_good0 (bs.getD 0 0) (bs.getD 1 0) (bs.getD 2 0) (bs.getD 3 0) (bs.getD 4 0) (bs.getD 5 0) (bs.getD 6 0) (bs.getD 7 0) (bs.getD 8 0) (bs.getD 9 0) (bs.getD 10 0) (bs.getD 11 0) (bs.getD 12 0) (bs.getD 13 0) b off n c (bs.drop 14) w h0 h1 (by have := hs.2.1; omega) (by rw [List.length_drop, hn]) hd (by have := hc 0 (by omega); simpa using this) (by have := hc 1 (by omega); simpa using this) (by have := hc 2 (by omega); simpa using this) (by have := hc 3 (by omega); simpa using this) (by have := hc 4 (by omega); simpa using this) (by have := hc 5 (by omega); simpa using this) (by have := hc 6 (by omega); simpa using this) (by have := hc 7 (by omega); simpa using this) (by have := hc 8 (by omega); simpa using this) (by have := hc 9 (by omega); simpa using this) (by have := hc 10 (by omega); simpa using this) (by have := hc 11 (by omega); simpa using this) (by have := hc 12 (by omega); simpa using this) (by have := hc 13 (by omega); simpa using this)).mono ?_
  rintro e w' ⟨X, x, rfl, ho, hb⟩
  have h20 := take6 bs 0 (by omega)
  have h21 := take6 bs 6 (by omega)
  rw [List.drop_zero] at h20
  refine ⟨X, x, ?_, by rw [readD, if_pos hk]; exact ho, hb⟩
  simp only [readTo, readFr, readKind, readD, readE, if_pos hk]
  rw [h20, h21, List.length_drop, hn]
  rfl
theorem read_any (A : Option Addr) (bs : List UInt8) (n c : Nat) (w : World) (hn : bs.length = n) (hs : Sl w A c bs) :
    Calls Try.prog 23 #[.slice A n c] w (EGot bs w) := by
  by_cases hw : okLen n
  · exact read_good A bs n c w hn hs hw
  · exact read_wrong A bs n c w hn (by have := hs.2.1; have := hs.2.2.1; omega) hw
end Go.Proofs.Ythchjfkbaocoiaa
