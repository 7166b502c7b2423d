/-
  The walk of Add.
-/
import Derived.Test.YtpdkoooecnmjjaaFragQ
import Derived.Test.YtpdkoooecnmjjaaGoes
namespace Go.Proofs.Ytpdkoooecnmjjaa
open Go.RowKit
set_option linter.unusedVariables false

set_option maxRecDepth 100000 in
theorem fr0 {v0 v1 v2 v3 v4 v5 v6 v7 v8 v9 v10 v11 v12 v13 v14 v15 v16 v17 v18 v19 v20 v21 v22 v23 v24 v25 v26 v27 v28 v29 v30 v31 v32 v33 v34 v35 v36 v37 v38 v39 v40 v41 v42 v43 v44 v45 v46 v47 v48 v49 v50 v51 v52 v53 v54 v55 v56 v57 v58 v59 v60 v61 v62 v63 v64 v65 v66 v67 v68 v69 v70 v71 v72 v73 v74 v75 v76 v77 v78 v79 v80 v81 v82 v83 v84 v85 v86 v87 v88 v89 v90 v91 v92 v93 v94 v95 v96 v97 v98 v99 v100 v101 v102 v103 v104 v105 v106 v107 v108 : Value} : ∃ u : Nat → Value, ({ tmps := #[v0, v1, v2, v3, v4, v5, v6, v7, v8, v9, v10, v11, v12, v13, v14, v15, v16, v17, v18, v19, v20, v21, v22, v23, v24, v25, v26, v27, v28, v29, v30, v31, v32, v33, v34, v35, v36, v37, v38, v39, v40, v41, v42, v43, v44, v45, v46, v47, v48, v49, v50, v51, v52, v53, v54, v55, v56, v57, v58, v59, v60, v61, v62, v63, v64, v65, v66, v67, v68, v69, v70, v71, v72, v73, v74, v75, v76, v77, v78, v79, v80, v81, v82, v83, v84, v85, v86, v87, v88, v89, v90, v91, v92, v93, v94, v95, v96, v97, v98, v99, v100, v101, v102, v103, v104, v105, v106, v107, v108], defers := [] } : Act) = { tmps := #[u 0, u 1, u 2, u 3, u 4, u 5, v6, u 7, u 8, u 9, u 10, v11, u 12, u 13, u 14, u 15, u 16, u 17, u 18, u 19, u 20, u 21, u 22, u 23, u 24, u 25, u 26, u 27, u 28, u 29, u 30, u 31, u 32, u 33, u 34, u 35, u 36, u 37, u 38, u 39, u 40, u 41, u 42, u 43, u 44, u 45, u 46, u 47, u 48, u 49, u 50, u 51, u 52, u 53, u 54, u 55, u 56, u 57, u 58, u 59, u 60, u 61, u 62, u 63, u 64, u 65, u 66, u 67, u 68, u 69, u 70, u 71, u 72, u 73, u 74, u 75, u 76, u 77, u 78, u 79, u 80, u 81, u 82, u 83, u 84, u 85, u 86, u 87, u 88, u 89, u 90, u 91, u 92, u 93, u 94, u 95, u 96, u 97, u 98, u 99, u 100, u 101, u 102, u 103, u 104, u 105, u 106, u 107, u 108], defers := [] } := ⟨fun i => [v0, v1, v2, v3, v4, v5, v6, v7, v8, v9, v10, v11, v12, v13, v14, v15, v16, v17, v18, v19, v20, v21, v22, v23, v24, v25, v26, v27, v28, v29, v30, v31, v32, v33, v34, v35, v36, v37, v38, v39, v40, v41, v42, v43, v44, v45, v46, v47, v48, v49, v50, v51, v52, v53, v54, v55, v56, v57, v58, v59, v60, v61, v62, v63, v64, v65, v66, v67, v68, v69, v70, v71, v72, v73, v74, v75, v76, v77, v78, v79, v80, v81, v82, v83, v84, v85, v86, v87, v88, v89, v90, v91, v92, v93, v94, v95, v96, v97, v98, v99, v100, v101, v102, v103, v104, v105, v106, v107, v108].getD i undef, by kernel_rfl⟩
set_option maxRecDepth 100000 in
theorem fr1 {v0 v1 v2 v3 v4 v5 v6 v7 v8 v9 v10 v11 v12 v13 v14 v15 v16 v17 v18 v19 v20 v21 v22 v23 v24 v25 v26 v27 v28 v29 v30 v31 v32 v33 v34 v35 v36 v37 v38 v39 v40 v41 v42 v43 v44 v45 v46 v47 v48 v49 v50 v51 v52 v53 v54 v55 v56 v57 v58 v59 v60 v61 v62 v63 v64 v65 v66 v67 v68 v69 v70 v71 v72 v73 v74 v75 v76 v77 v78 v79 v80 v81 v82 v83 v84 v85 v86 v87 v88 v89 v90 v91 v92 v93 v94 v95 v96 v97 v98 v99 v100 v101 v102 v103 v104 v105 v106 v107 v108 : Value} : ∃ u : Nat → Value, ({ tmps := #[v0, v1, v2, v3, v4, v5, v6, v7, v8, v9, v10, v11, v12, v13, v14, v15, v16, v17, v18, v19, v20, v21, v22, v23, v24, v25, v26, v27, v28, v29, v30, v31, v32, v33, v34, v35, v36, v37, v38, v39, v40, v41, v42, v43, v44, v45, v46, v47, v48, v49, v50, v51, v52, v53, v54, v55, v56, v57, v58, v59, v60, v61, v62, v63, v64, v65, v66, v67, v68, v69, v70, v71, v72, v73, v74, v75, v76, v77, v78, v79, v80, v81, v82, v83, v84, v85, v86, v87, v88, v89, v90, v91, v92, v93, v94, v95, v96, v97, v98, v99, v100, v101, v102, v103, v104, v105, v106, v107, v108], defers := [] } : Act) = { tmps := #[v0, u 1, u 2, u 3, u 4, u 5, v6, u 7, u 8, v9, u 10, v11, u 12, u 13, u 14, u 15, u 16, u 17, u 18, u 19, u 20, u 21, u 22, u 23, u 24, u 25, u 26, u 27, u 28, u 29, u 30, u 31, u 32, u 33, u 34, u 35, u 36, u 37, u 38, u 39, u 40, u 41, u 42, u 43, u 44, u 45, u 46, u 47, u 48, u 49, u 50, u 51, u 52, u 53, u 54, u 55, u 56, u 57, u 58, u 59, u 60, u 61, u 62, u 63, u 64, u 65, u 66, u 67, u 68, u 69, u 70, u 71, u 72, u 73, u 74, u 75, u 76, u 77, u 78, u 79, u 80, u 81, u 82, u 83, u 84, u 85, u 86, u 87, u 88, u 89, u 90, u 91, u 92, u 93, u 94, u 95, u 96, u 97, u 98, u 99, u 100, u 101, u 102, u 103, u 104, u 105, u 106, u 107, u 108], defers := [] } := ⟨fun i => [v0, v1, v2, v3, v4, v5, v6, v7, v8, v9, v10, v11, v12, v13, v14, v15, v16, v17, v18, v19, v20, v21, v22, v23, v24, v25, v26, v27, v28, v29, v30, v31, v32, v33, v34, v35, v36, v37, v38, v39, v40, v41, v42, v43, v44, v45, v46, v47, v48, v49, v50, v51, v52, v53, v54, v55, v56, v57, v58, v59, v60, v61, v62, v63, v64, v65, v66, v67, v68, v69, v70, v71, v72, v73, v74, v75, v76, v77, v78, v79, v80, v81, v82, v83, v84, v85, v86, v87, v88, v89, v90, v91, v92, v93, v94, v95, v96, v97, v98, v99, v100, v101, v102, v103, v104, v105, v106, v107, v108].getD i undef, by kernel_rfl⟩
/-- At a goto: 0 'wrong', 1 'spoilt'. -/
def AddJ (w : World) (B gr tb : Nat) (wait now : Int) (A : Option Addr) (c : Nat) (L : List WX) (tm : Int) (p : Pk) (l : Nat) (a' : Act) (W : World) : Prop :=
  (l = 0 ∧ ∃ er : Int, Blk W gr 33 (pkV 0 0 0 0 false false 0 0 none 0 0) ∧ Below B w W ∧ AddE B tb wait now A c L tm p er W ∧ ∃ u : Nat → Value, a' = { tmps := #[u 0, u 1, u 2, u 3, u 4, u 5, PV gr, u 7, u 8, u 9, u 10, .int .i64 er, u 12, u 13, u 14, u 15, u 16, u 17, u 18, u 19, u 20, u 21, u 22, u 23, u 24, u 25, u 26, u 27, u 28, u 29, u 30, u 31, u 32, u 33, u 34, u 35, u 36, u 37, u 38, u 39, u 40, u 41, u 42, u 43, u 44, u 45, u 46, u 47, u 48, u 49, u 50, u 51, u 52, u 53, u 54, u 55, u 56, u 57, u 58, u 59, u 60, u 61, u 62, u 63, u 64, u 65, u 66, u 67, u 68, u 69, u 70, u 71, u 72, u 73, u 74, u 75, u 76, u 77, u 78, u 79, u 80, u 81, u 82, u 83, u 84, u 85, u 86, u 87, u 88, u 89, u 90, u 91, u 92, u 93, u 94, u 95, u 96, u 97, u 98, u 99, u 100, u 101, u 102, u 103, u 104, u 105, u 106, u 107, u 108], defers := [] }) ∨
  (l = 1 ∧ ∃ (er : Int) (A' : Option Addr) (c' : Nat) (L2 : List WX) (k : Nat) (x : WX), Blk W gr 33 (pkV 0 0 0 0 false false 0 0 none 0 0) ∧ Below B w W ∧ TAt W B tb wait tm A' c' L2 ∧ L2.length ≤ 1000 ∧ Found tm p (L.filter fun x => !oldB wait tm x) L2 k x ∧
    earlyE now tm p = 0 ∧ ¬ p.one ∧ midE p = 0 ∧ ((x.pieces = 64 ∧ er = 3) ∨ (x.pieces ≠ 64 ∧ clashB x.pure p.a p.d p.mo = true ∧ er = 6)) ∧ ∃ u : Nat → Value, a' = { tmps := #[PV tb, u 1, u 2, u 3, u 4, u 5, PV gr, u 7, u 8, PV x.g, u 10, .int .i64 er, u 12, u 13, u 14, u 15, u 16, u 17, u 18, u 19, u 20, u 21, u 22, u 23, u 24, u 25, u 26, u 27, u 28, u 29, u 30, u 31, u 32, u 33, u 34, u 35, u 36, u 37, u 38, u 39, u 40, u 41, u 42, u 43, u 44, u 45, u 46, u 47, u 48, u 49, u 50, u 51, u 52, u 53, u 54, u 55, u 56, u 57, u 58, u 59, u 60, u 61, u 62, u 63, u 64, u 65, u 66, u 67, u 68, u 69, u 70, u 71, u 72, u 73, u 74, u 75, u 76, u 77, u 78, u 79, u 80, u 81, u 82, u 83, u 84, u 85, u 86, u 87, u 88, u 89, u 90, u 91, u 92, u 93, u 94, u 95, u 96, u 97, u 98, u 99, u 100, u 101, u 102, u 103, u 104, u 105, u 106, u 107, u 108], defers := [] })

set_option maxHeartbeats 8000000 in
set_option maxRecDepth 100000 in
theorem fadd_any {w : World} {B Bd tb c : Nat} {wait now : Int} {A : Option Addr} {L : List WX} (t : TAt w B tb wait now A c L) (hl : L.length ≤ 8) (tm : Int) (id at_ life kind : Int) (wh mo : Bool) (f t' : Int) (D : Option Addr) (n q : Nat) (d : List UInt8) (hn : d.length = n) (hn1 : (n : Int) ≤ 70000) (hs : Own w Bd D q d) (hap : ∀ x ∈ L, ∀ k, (Value.slice D d.length q).ownBlock = some k → dblk x ≠ some k) :
    Calls Try.prog 8 #[PV tb, .int .i64 tm, .agg (pkV id at_ life kind wh mo f t' D n q)] w (AddR B tb wait now A c L tm ⟨id, at_, life, kind, wh, mo, f, t', d⟩ w) := by
  obtain ⟨p, EP⟩ : ∃ p, Hid (Pk.mk id at_ life kind wh mo f t' d = p) := ⟨_, rfl⟩
  rw [EP.out]
  have hS := AddS.begin t hs hap (pkV id at_ life kind wh mo f t' D n q)
  have hBw : B ≤ w.heap.size := by have := t.base; have := t.lt; omega
  have HBW := Lib.hid hBw
  have HL := Lib.hid hl
  have HN := Lib.hid hn
  have HN1 := Lib.hid hn1
  clear t hs hap hl hn hn1
  go_enter Try.func8, Try.ntmps8
  go_wp2_with fail
  generalize (w.alloc (.cells (pkV id at_ life kind wh mo f t' D n q) 33)).alloc (.cells (pkV 0 0 0 0 false false 0 0 none 0 0) 33) = w1 at *
  obtain ⟨gr, EGR⟩ : ∃ z, Hid (w.heap.size + 1 = z) := ⟨_, rfl⟩
  rw [EGR.out] at hS ⊢
  obtain ⟨gp, EGP⟩ : ∃ z, Hid (w.heap.size = z) := ⟨_, rfl⟩
  rw [EGP.out] at hS ⊢
  have HGR : Hid (B ≤ gr) := by have := EGR.out; show _ ≤ _; omega
  clear hBw
  refine wp_scope_goes (AddJ w B gr tb wait now A c L tm p) (fun _ _ _ => 0) ?first ?pass
  case pass =>
    clear hS
    intro l a' W hJ
    rcases hJ with ⟨rfl, er, hrs, hbel, hE, u, rfl⟩ | ⟨rfl, er, A', c', L2, k, x, hrs, hbel, ht, hlen, hfound, he0, h1, hm0, her, u, rfl⟩
    · refine ⟨_, rfl, ?_⟩
      obtain ⟨r0, r1, r2, r3, r4, r5, r6, r7, r8⟩ := hrs.cells9
      obtain ⟨f0, f1, f2, f3, f4, f5, f6, f7, f8⟩ := hrs.frees9
      obtain ⟨hk, hg⟩ := hrs.store9 (.int .i64 0) (.int .i64 0) (.int .i64 0) (.int .i64 0) (.bool false) (.bool false) (.int .u32 0) (.int .u32 0) (.slice none 0 0)
      have HK := Lib.hid hk
      have HB := Lib.hid (below_grown hbel hg HBW.out HGR.out)
      have HE := Lib.hid (hE.taken hrs 0 0 0 0 false false 0 0 none 0 0 hk hg)
      clear hk hg hbel hrs hE
      go_wp2_with fail
      generalize World.setCell _ _ (Value.slice none 0 0) = w5 at HK HB HE ⊢
      simp only [goes]
      obtain ⟨d0, d1, d2, d3, d4, d5, d6, d7, d8⟩ := HK.out.cells9
      exact bodyPost_ret (v := .tuple #[emptyV, .bool false, .int .i64 er]) (by simp [results, Try.results8, go_sem, d0, d1, d2, d3, d4, d5, d6, d7, d8]) rfl ⟨HB.out, .inl ⟨er, rfl, HE.out⟩⟩
    · have hx : x ∈ L2 := List.mem_of_getElem? hfound.1
      have FG := Lib.hid (forget_any ht x hx hlen)
      have hTF := pk_TF ht hrs
      have EE : Hid (∀ W', TAt W' B tb wait tm A' c' (L2.filter fun y => !(y.g == x.g)) → AddE B tb wait now A c L tm p er W') := fun W' t' => by
        rcases her with ⟨q1, q2⟩ | ⟨q1, q2, q3⟩
        · exact .inr ⟨he0, h1, .inr (.inr ⟨hm0, A', c', L2, k, x, hfound, .inl ⟨q1, q2, t'⟩⟩)⟩
        · exact .inr ⟨he0, h1, .inr (.inr ⟨hm0, A', c', L2, k, x, hfound, .inr (.inl ⟨q1, q2, q3, t'⟩)⟩)⟩
      have HBB : Hid (∀ W', Frame (TF tb A' L2.length c') W W' → Below B w W') := fun W' hF => hF.below hbel ht.TFB (by have := ht.base; have := ht.lt; omega)
      have HRS : Hid (∀ W', Frame (TF tb A' L2.length c') W W' → Blk W' gr 33 (pkV 0 0 0 0 false false 0 0 none 0 0)) := fun W' hF => hrs.framed hF hTF
      obtain ⟨xg, EXG⟩ : ∃ z, Hid (x.g = z) := ⟨_, rfl⟩
      rw [EXG.out] at FG EE ⊢
      clear hx hTF hrs hbel ht hlen hfound he0 h1 hm0 her
      refine ⟨_, rfl, ?_⟩
      go_wp2_with fail
      refine FG.out.mono ?_
      rintro e W2 ⟨rfl, t2, hF⟩
      have hrs := HRS.out W2 hF
      have hbel := HBB.out W2 hF
      have hE := EE.out W2 t2
      clear t2 hF
      obtain ⟨r0, r1, r2, r3, r4, r5, r6, r7, r8⟩ := hrs.cells9
      obtain ⟨f0, f1, f2, f3, f4, f5, f6, f7, f8⟩ := hrs.frees9
      obtain ⟨hk, hg⟩ := hrs.store9 (.int .i64 0) (.int .i64 0) (.int .i64 0) (.int .i64 0) (.bool false) (.bool false) (.int .u32 0) (.int .u32 0) (.slice none 0 0)
      have HK := Lib.hid hk
      have HB := Lib.hid (below_grown hbel hg HBW.out HGR.out)
      have HE := Lib.hid (hE.taken hrs 0 0 0 0 false false 0 0 none 0 0 hk hg)
      clear hk hg hbel hrs hE
      go_wp2_with fail
      go_step3
      go_wp2_with fail
      generalize World.setCell _ _ (Value.slice none 0 0) = w5 at HK HB HE ⊢
      try simp only [goes]
      obtain ⟨d0, d1, d2, d3, d4, d5, d6, d7, d8⟩ := HK.out.cells9
      exact bodyPost_ret (v := .tuple #[emptyV, .bool false, .int .i64 er]) (by simp [results, Try.results8, go_sem, d0, d1, d2, d3, d4, d5, d6, d7, d8]) rfl ⟨HB.out, .inl ⟨er, rfl, HE.out⟩⟩
  case first =>
    obtain ⟨em, EM⟩ : ∃ z, Hid (mayE now tm = z) := ⟨_, rfl⟩
    have HS := Lib.hid hS
    clear hS
    go_wp2_with fail
    refine (may_any HS.out.t tm).mono ?_
    rintro e w' ⟨rfl, rfl⟩
    rw [EM.out]
    by_cases hem : em = 0
    case neg =>
      have b0 : (em == 0) = false := by simpa using hem
      have b1 : (em != 0) = true := by simpa using hem
      have FIN : Hid (AddE B tb wait now A c L tm p em w1) := .inl ⟨hem, by unfold earlyE; rw [EM.out, if_neg hem], HS.out.t⟩
      clear hem
      go_wp2_with fail
      go_step3
      exact .inl ⟨rfl, em, HS.out.br, HS.out.bel, FIN.out, fr0⟩
    case pos =>
      subst hem
      have EF : Hid (earlyE now tm p = fitsE id at_ life kind) := by show _ = _; unfold earlyE; rw [EM.out, ← EP.out]; rfl
      obtain ⟨x0, x1, x2, x3, x4, x5, x6, x7, x8⟩ := HS.out.bp.cells9
      go_wp2_with fail
      refine (fits_any id at_ life kind wh mo f t' D n q _).mono ?_
      rintro e w2 ⟨rfl, hb⟩
      have HS2 := Lib.hid (HS.out.below hb)
      clear hb x0 x1 x2 x3 x4 x5 x6 x7 x8
      by_cases hef : fitsE id at_ life kind = 0
      case neg =>
        obtain ⟨ef, EEF⟩ : ∃ z, Hid (fitsE id at_ life kind = z) := ⟨_, rfl⟩
        rw [EEF.out] at hef EF ⊢
        have b0 : (ef == 0) = false := by simpa using hef
        have b1 : (ef != 0) = true := by simpa using hef
        have FIN : Hid (AddE B tb wait now A c L tm p ef w2) := .inl ⟨hef, EF.out, HS2.out.t⟩
        clear hef
        go_wp2_with fail
        go_step3
        exact .inl ⟨rfl, ef, HS2.out.br, HS2.out.bel, FIN.out, fr0⟩
      case pos =>
        rw [hef] at EF ⊢
        have hrp : rightP id at_ life kind := by
          by_cases h : rightP id at_ life kind
          · exact h
          · rw [fitsE, if_neg h] at hef; omega
        obtain ⟨⟨a0, a1⟩, _⟩ := hrp
        have hmay : now ≤ tm ∧ tm ≤ 1099511627776 := by
          have := EM.out
          unfold mayE at this
          split at this
          · omega
          · omega
        have DRP := Lib.hid (drop_any HS2.out.t tm hmay.1 hmay.2 (by have := HL.out; omega))
        clear hmay hef
        go_wp2_with fail
        refine DRP.out.mono ?_
        rintro e w3 ⟨rfl, t3, hF3⟩
        have HS3 := Lib.hid (HS2.out.tf t3 hF3 (fun x hx => .inl (List.mem_filter.1 hx).1))
        clear t3 hF3
        obtain ⟨dn, EDN⟩ : ∃ z : Int, Hid ((L.length : Int) - (L.filter fun x => !oldB wait tm x).length = z) := ⟨_, rfl⟩
        have HL1 : Hid ((L.filter fun x => !oldB wait tm x).length ≤ 8) := Nat.le_trans (List.length_filter_le _ _) HL.out
        rw [EDN.out]
        clear HS HS2 DRP EDN
        obtain ⟨L1, EL1⟩ : ∃ z, Hid ((L.filter fun x => !oldB wait tm x) = z) := ⟨_, rfl⟩
        rw [EL1.out] at HS3 HL1
        have ONE : Hid (p.one ↔ (at_ = 0 ∧ mo = false)) := by show _ ↔ _; rw [← EP.out]; exact Iff.rfl
        obtain ⟨x0, x1, x2, x3, x4, x5, x6, x7, x8⟩ := HS3.out.bp.cells9
        by_cases h1 : at_ = 0 ∧ mo = false
        case pos =>
          have H1 : Hid p.one := ONE.out.2 h1
          obtain ⟨rfl, rfl⟩ := h1
          have CL := Lib.hid (clone_n D d n q w3 HN.out HS3.out.own.sl (by have := HN.out; have := HN1.out; omega))
          go_wp2_with fail
          refine CL.out.mono ?_
          rintro e w4 ⟨D', q', rfl, ho, hb⟩
          rw [HN.out]
          have HS4 := Lib.hid (HS3.out.below hb)
          clear x0 x1 x2 x3 x4 x5 x6 x7 x8
          have y8 : w4.cell? ⟨gp, 8, none⟩ = some (.slice D n q) := HS4.out.bp.cell 8
          have f8 := HS4.out.bp.free 8
          have hb5 : Blk (w4.setCell ⟨gp, 8, none⟩ (.slice D' n q')) gp 33 (pkV id 0 life kind wh false f t' D' n q') := HS4.out.bp.set 8 _
          have hr5 := HS4.out.br.far (p := ⟨gp, 8, none⟩) (by have := EGR.out; have := EGP.out; show gr ≠ gp; omega) (.slice D' n q')
          have ht5 := HS4.out.t.taken HS4.out.bp id 0 life kind wh false f t' D' n q' hb5 (grown_set gp 8 _)
          have HO5 := Lib.hid (ho.past HS4.out.bp (by decide) 8 (.slice D' n q'))
          have hgb : Below B w (w4.setCell ⟨gp, 8, none⟩ (.slice D' n q')) := HS4.out.bel.setCell (p := ⟨gp, 8, none⟩) (by have := EGP.out; have := HBW.out; show B ≤ gp; omega) _
          have HB5 := Lib.hid hb5
          have HR5 := Lib.hid hr5
          have HT5 := Lib.hid ht5
          have HBB := Lib.hid hgb
          have HSZ := Lib.hid HS3.out.bel.size
          clear hb5 hr5 ht5 hgb ho hb
          go_upto_region 10 with fail
          clear y8 f8
          generalize w4.setCell ⟨gp, 8, none⟩ (.slice D' n q') = w5 at HB5 HR5 HT5 HO5 HBB ⊢
          obtain ⟨h0, h1, h2, h3, h4, h5, h6, h7, h8⟩ := HB5.out.cells9
          obtain ⟨z0, z1, z2, z3, z4, z5, z6, z7, z8⟩ := HR5.out.cells9
          obtain ⟨f0', f1', f2', f3', f4', f5', f6', f7', f8'⟩ := HR5.out.frees9
          have st := HR5.out.store9 (.int .i64 id) (.int .i64 0) (.int .i64 life) (.int .i64 kind) (.bool wh) (.bool false) (.int .u32 f) (.int .u32 t') (.slice D' n q')
          have HST := Lib.hid st.1
          have HO6 := Lib.hid (HO5.out.grown HR5.out (by decide) st.2)
          have HT6 := Lib.hid (HT5.out.taken HR5.out id 0 life kind wh false f t' D' n q' st.1 st.2)
          have HB6 := Lib.hid (below_grown HBB.out st.2 HBW.out HGR.out)
          clear st
          go_wp2_with fail
          clear h0 h1 h2 h3 h4 h5 h6 h7 h8 z0 z1 z2 z3 z4 z5 z6 z7 z8 f0' f1' f2' f3' f4' f5' f6' f7' f8'
          generalize World.setCell _ _ (Value.slice D' n q') = w6 at HST HO6 HT6 HB6 ⊢
          simp only [goes]
          obtain ⟨d0, d1, d2, d3, d4, d5, d6, d7, d8⟩ := HST.out.cells9
          have FIN : Hid (AddR B tb wait now A c L tm p w (.returned (.tuple #[.agg (pkV id 0 life kind wh false f t' D' n q'), .bool true, .int .i64 0])) w6) :=
            ⟨HB6.out, .inr ⟨d, id, 0, life, kind, wh, false, f, t', D', q', by rw [HN.out], HO6.out.base HSZ.out, EF.out, .inl ⟨H1.out, by rw [← EP.out], by rw [EL1.out]; exact HT6.out⟩⟩⟩
          exact bodyPost_ret (v := .tuple #[.agg (pkV id 0 life kind wh false f t' D' n q'), .bool true, .int .i64 0]) (by simp [results, Try.results8, go_sem, d0, d1, d2, d3, d4, d5, d6, d7, d8]) rfl FIN.out
        case neg =>
          have H1 : Hid (¬ p.one) := fun h => h1 (ONE.out.1 h)
          have MID : Hid (midE p = if mo = true ∧ (n = 0 ∨ n % 8 ≠ 0) then 70 else if (65515 : Int) - 8 * at_ < (n : Int) then 3 else 0) := by
            show _ = _
            unfold midE
            rw [← EP.out]
            simp only [HN.out]
          have HPA : Hid (p.a = (8 * at_).toNat) := by show _ = _; rw [← EP.out]; rfl
          have HPD : Hid (p.d = d) := by show _ = _; rw [← EP.out]
          have HPM : Hid (p.mo = mo) := by show _ = _; rw [← EP.out]
          have C3 : ((at_ == 0) = true ∧ mo = true) ∨ ((at_ == 0) = false ∧ mo = true) ∨ ((at_ == 0) = false ∧ mo = false) := by
            cases hz : (at_ == 0) <;> cases mo
            · exact .inr (.inr ⟨rfl, rfl⟩)
            · exact .inr (.inl ⟨rfl, rfl⟩)
            · exact absurd ⟨by simpa using hz, rfl⟩ h1
            · exact .inl ⟨rfl, rfl⟩
          clear h1 ONE
          have hn0 : (0 : Int) ≤ (n : Int) := Int.natCast_nonneg n
          obtain ⟨AT, EAT⟩ : ∃ z, Hid (8 * at_ = z) := ⟨_, rfl⟩
          have AT0 : 0 ≤ AT := by have := EAT.out; omega
          have AT1 : AT ≤ 65528 := by have := EAT.out; omega
          rw [EAT.out] at MID HPA
          have MIX : (Hid (midE p = 70) ∧ mo = true ∧ (((n : Int) == 0) = true ∨ (((n : Int) == 0) = false ∧ ((n : Int) % 8 != 0) = true))) ∨
              (Hid (midE p = 3) ∧ (mo = true → ((n : Int) == 0) = false ∧ ((n : Int) % 8 != 0) = false) ∧ 65515 - AT < (n : Int)) ∨
              (Hid (midE p = 0) ∧ (mo = true → ((n : Int) == 0) = false ∧ ((n : Int) % 8 != 0) = false) ∧ ¬ 65515 - AT < (n : Int)) := by
            have hm := MID.out
            by_cases hc : mo = true ∧ (n = 0 ∨ n % 8 ≠ 0)
            · rw [if_pos hc] at hm
              refine .inl ⟨hm, hc.1, ?_⟩
              by_cases hz : n = 0
              · exact .inl (by simp; omega)
              · exact .inr ⟨by simp; omega, by simp; omega⟩
            · rw [if_neg hc] at hm
              have hq : mo = true → ((n : Int) == 0) = false ∧ ((n : Int) % 8 != 0) = false := fun h => by
                have e0 : n ≠ 0 := fun e => hc ⟨h, .inl e⟩
                have e8 : n % 8 = 0 := Decidable.byContradiction fun e => hc ⟨h, .inr e⟩
                exact ⟨by simp; omega, by simp; omega⟩
              by_cases hl : 65515 - AT < (n : Int)
              · rw [if_pos hl] at hm
                exact .inr (.inl ⟨hm, hq, hl⟩)
              · rw [if_neg hl] at hm
                exact .inr (.inr ⟨hm, hq, hl⟩)
          clear MID
          rcases MIX with ⟨HM, hmo, hq⟩ | ⟨HM, hq, hl⟩ | ⟨HM, hq, hl⟩
          · have FIN : Hid (AddE B tb wait now A c L tm p 70 w3) := .inr ⟨EF.out, H1.out, .inl ⟨by omega, HM.out, by rw [EL1.out]; exact HS3.out.t⟩⟩
            subst hmo
            rcases C3 with ⟨hz, _⟩ | ⟨hz, _⟩ | ⟨_, hmo⟩
            case inr.inr => cases hmo
            all_goals
              rcases hq with q0 | ⟨q0, q8⟩
              all_goals
                go_wp2_with fail
                try simp only [EAT.out]
                go_step3
                exact .inl ⟨rfl, 70, HS3.out.br, HS3.out.bel, FIN.out, fr0⟩
          · have FIN : Hid (AddE B tb wait now A c L tm p 3 w3) := .inr ⟨EF.out, H1.out, .inl ⟨by omega, HM.out, by rw [EL1.out]; exact HS3.out.t⟩⟩
            have hl' : 65515 - 8 * at_ < (n : Int) := by rw [EAT.out]; exact hl
            rcases C3 with ⟨hz, rfl⟩ | ⟨hz, rfl⟩ | ⟨hz, rfl⟩
            all_goals
              first | (obtain ⟨q0, q8⟩ := hq rfl) | clear hq
              go_wp2_with fail
              go_step3
              exact .inl ⟨rfl, 3, HS3.out.br, HS3.out.bel, FIN.out, fr0⟩
          · have HLL := Lib.hid hl
            have hl' : ¬ 65515 - 8 * at_ < (n : Int) := by rw [EAT.out]; exact hl
            have H8 : Hid (p.mo = false → 8 ≤ p.a) := fun h => by
              rw [HPA.out]
              have h0 : at_ ≠ 0 := fun e => H1.out (by rw [← EP.out]; exact ⟨e, by rw [HPM.out] at h; exact h⟩)
              have := EAT.out
              omega
            have HAT : Hid ((p.a : Int) = 8 * at_) := by show _ = _; rw [HPA.out, EAT.out]; omega
            have HBG : Hid (p.a + p.d.length ≤ 65515) := by show _ ≤ _; rw [HPA.out, HPD.out, HN.out]; omega
            have FDH : Hid (∀ (W : World) (A : Option Addr) (c : Nat) (L : List WX), TAt W B tb wait tm A c L → L.length ≤ 1000 → Calls Try.prog 16 #[PV tb, .agg (pkV id at_ life kind wh mo f t' D n q)] W (FindR B tb wait tm A c L p.f p.t p.kind p.id W)) := fun W A c L t hl => by
              rw [← EP.out]
              exact find_any t id at_ life kind wh mo f t' D n q hl
            have CLH : Hid (∀ (W : World) (x : WX), WAt W B x → Winv x → Own W Bd D q d → Calls Try.prog 17 #[PV x.g, .int .i64 (8 * at_), .agg (pkV id at_ life kind wh mo f t' D n q)] W fun e w' => e = .returned (.bool (clashB x.pure p.a p.d p.mo)) ∧ Below W.heap.size W w') := fun W x o wi ho => by
              rw [HPD.out, HPM.out]
              exact clash_any o wi.len p.a (8 * at_) HAT.out (by omega) id at_ life kind wh mo f t' D n q d HN.out HN1.out ho.sl
            have PTH : Hid (∀ (W : World) (x : WX), WAt W B x → Winv x → Own W Bd D q d → (∀ k, (Value.slice D d.length q).ownBlock = some k → dblk x ≠ some k) → Calls Try.prog 18 #[PV x.g, .int .i64 (8 * at_), .agg (pkV id at_ life kind wh mo f t' D n q)] W (PutR B x p.a p.d p.mo W)) := fun W x o wi ho ha => by
              have h1 := List.count_le_length (a := true) (l := x.has)
              have h2 := wi.len
              have h3 := wi.many
              have h4 := wi.big
              rw [HPD.out, HPM.out]
              exact put_any o wi.len p.a (8 * at_) HAT.out id at_ life kind wh mo f t' D n q d HN.out (by omega) (by omega) ho ha (by omega) (by omega) wi.p0 wi.p1
            rcases C3 with ⟨hz, rfl⟩ | ⟨hz, rfl⟩ | ⟨hz, rfl⟩
            all_goals
              first | (obtain ⟨q0, q8⟩ := hq rfl) | clear hq
              go_wp2_with fail
              clear hl hl' hz
              try clear q0 q8
              try clear hq
              refine (FDH.out _ _ _ _ HS3.out.t (by have := HL1.out; omega)).mono ?_
              rintro e w4 hfind
              rcases HS3.out.find p hfind with ⟨hno, h8, rfl, hs4⟩ | ⟨A', c', L2, k, x, hfound, rfl, hs4⟩
              · have FIN : Hid (AddE B tb wait now A c L tm p 4 w4) := .inr ⟨EF.out, H1.out, .inr (.inl ⟨HM.out, by rw [EL1.out]; exact hno, by rw [EL1.out]; exact h8, rfl, by rw [EL1.out]; exact hs4.t⟩)⟩
                have HS4 := Lib.hid hs4
                clear hno h8 hs4 hfind x0 x1 x2 x3 x4 x5 x6 x7 x8
                go_wp2_with fail
                go_step3
                exact .inl ⟨rfl, 4, HS4.out.br, HS4.out.bel, FIN.out, fr0⟩
              · have HFO := Lib.hid hfound
                have HS4 := Lib.hid hs4
                have HX : Hid (x ∈ L2) := List.mem_of_getElem? hfound.1
                have HL2 : Hid (L2.length ≤ 1000) := by
                  show _ ≤ _
                  have := HL1.out
                  rcases hfound.2 with ⟨e, _⟩ | ⟨g, _, _, e, _⟩
                  · rw [e]; omega
                  · rw [e, List.length_append]; simp; omega
                have HWI := Lib.hid (hs4.t.inv x HX.out)
                have HO := Lib.hid (hs4.t.each x HX.out)
                clear hfound hs4 hfind x0 x1 x2 x3 x4 x5 x6 x7 x8
                have c5 : w4.cell? ⟨x.g, 5, none⟩ = some (.int .i64 x.pieces) := HO.out.blk.cell 5
                obtain ⟨x0, x1, x2, x3, x4, x5, x6, x7, x8⟩ := HS4.out.bp.cells9
                by_cases h64 : x.pieces = 64
                · have b64 : (x.pieces == 64) = true := by simpa using h64
                  have H64 := Lib.hid h64
                  clear h64
                  go_wp2_with fail
                  go_step3
                  exact .inr ⟨rfl, 3, A', c', L2, k, x, HS4.out.br, HS4.out.bel, HS4.out.t, HL2.out, by rw [EL1.out]; exact HFO.out, EF.out, H1.out, HM.out, .inl ⟨H64.out, rfl⟩, fr1⟩
                · have b64 : (x.pieces == 64) = false := by simpa using h64
                  have H64 := Lib.hid h64
                  clear h64
                  have CLS := Lib.hid (CLH.out w4 x HO.out HWI.out HS4.out.own)
                  obtain ⟨cz, ECZ⟩ : ∃ z, Hid (clashB x.pure p.a p.d p.mo = z) := ⟨_, rfl⟩
                  rw [ECZ.out] at CLS
                  go_wp2_with fail
                  refine CLS.out.mono ?_
                  rintro e w5 ⟨rfl, hb⟩
                  have HS5 := Lib.hid (HS4.out.below hb)
                  have HO5 := Lib.hid (HO.out.below hb)
                  clear hb c5 b64 x0 x1 x2 x3 x4 x5 x6 x7 x8
                  cases cz
                  case true =>
                    go_wp2_with fail
                    go_step3
                    exact .inr ⟨rfl, 6, A', c', L2, k, x, HS5.out.br, HS5.out.bel, HS5.out.t, HL2.out, by rw [EL1.out]; exact HFO.out, EF.out, H1.out, HM.out, .inr ⟨H64.out, ECZ.out, rfl⟩, fr1⟩
                  case false =>
                    obtain ⟨x0, x1, x2, x3, x4, x5, x6, x7, x8⟩ := HS5.out.bp.cells9
                    have PUT := Lib.hid (PTH.out w5 x HO5.out HWI.out HS5.out.own (HS5.out.ap x HX.out))
                    go_wp2_with fail
                    refine PUT.out.mono ?_
                    rintro e w6 ⟨rfl, x', later, ho, hpu, hF⟩
                    have HWI2 := Lib.hid (winv_put HWI.out hpu ECZ.out H64.out HBG.out H8.out)
                    have hbg : x'.began = x.began := congrArg WP.began hpu
                    have HS6 := Lib.hid (HS5.out.wf HFO.out.1 later ho HWI2.out hbg hF)
                    have HGE := Lib.hid later.g
                    have HPU := Lib.hid hpu
                    have HO6 := Lib.hid ho
                    have c10 : w6.cell? ⟨x.g, 10, none⟩ = some (.int .i64 x'.many) := by have h9 := ho.blk.cell 10; rw [HGE.out] at h9; exact h9
                    have c6 : w6.cell? ⟨x.g, 6, none⟩ = some (.int .i64 x'.fin) := by have h9 := ho.blk.cell 6; rw [HGE.out] at h9; exact h9
                    clear later ho hpu hbg hF x0 x1 x2 x3 x4 x5 x6 x7 x8
                    obtain ⟨mm, EMM⟩ : ∃ z, Hid (x'.many = z) := ⟨_, rfl⟩
                    obtain ⟨fi, EFI⟩ : ∃ z, Hid (x'.fin = z) := ⟨_, rfl⟩
                    rw [EMM.out] at c10
                    rw [EFI.out] at c6
                    go_upto_region 23 with fail
                    go_quiet (fail)
                    have HS7 := Lib.hid (HS6.out.below ((show Drawn w6 (w6.drewN nq) from ⟨nq, rfl⟩).below _))
                    clear c10 c6 PUT CLS
                    generalize w6.drewN nq = w7 at HS7 ⊢
                    have HMEM : Hid (x' ∈ L2.set k x') := by
                      show _ ∈ _
                      have hk := (List.getElem?_eq_some_iff.1 HFO.out.1).1
                      exact List.mem_of_getElem? (i := k) (by rw [List.getElem?_set, if_pos rfl, if_pos hk])
                    have HL3 : Hid ((L2.set k x').length ≤ 1000) := by show _ ≤ _; rw [List.length_set]; exact HL2.out
                    by_cases hmf : mm = fi
                    · have bmf : (mm != fi) = false := by simpa using hmf
                      have HMF : Hid (x'.many = x'.fin) := by show _ = _; rw [EMM.out, EFI.out]; exact hmf
                      clear hmf
                      have FG := Lib.hid (forget_any HS7.out.t x' HMEM.out HL3.out)
                      have ADP : Hid (∀ W, TAt W B tb wait tm A' c' ((L2.set k x').filter fun y => !(y.g == x.g)) → AddP B tb wait now A c L tm p x'.data W) := fun W t => ⟨EF.out, .inr ⟨H1.out, HM.out, A', c', L2, k, x, by rw [EL1.out]; exact HFO.out, H64.out, ECZ.out, x', HPU.out, HGE.out, HMF.out, rfl, t⟩⟩
                      rw [HGE.out] at FG
                      go_wp2_with fail
                      refine FG.out.mono ?_
                      rintro e w8 ⟨rfl, t8, hF8⟩
                      have HS8 := Lib.hid (HS7.out.tf t8 hF8 (fun y hy => .inl (List.mem_filter.1 hy).1))
                      have ho8 := (HS7.out.t.each x' HMEM.out).framed hF8 (HS7.out.t.whole_free HMEM.out).1 (HS7.out.t.whole_free HMEM.out).2
                      obtain ⟨h, hh⟩ := done_head HWI2.out HMF.out
                      have PKT := Lib.hid (packet_any ho8 h hh (by have := HWI2.out.big; omega))
                      rw [HGE.out] at PKT
                      clear t8 hF8 ho8 hh bmf FG
                      go_wp2_with fail
                      refine PKT.out.mono ?_
                      rintro e w9 ⟨i1, i2, i3, i4, b1, i5, i6, D', q', rfl, ho9, hb9⟩
                      have HS9 := Lib.hid (HS8.out.below hb9)
                      obtain ⟨dl, EDL⟩ : ∃ z, Hid (x'.data.length = z) := ⟨_, rfl⟩
                      rw [EDL.out]
                      obtain ⟨r0, r1, r2, r3, r4, r5, r6, r7, r8⟩ := HS9.out.br.cells9
                      obtain ⟨f0, f1, f2, f3, f4, f5, f6, f7, f8⟩ := HS9.out.br.frees9
                      obtain ⟨hk, hg⟩ := HS9.out.br.store9 (.int .i64 i1) (.int .i64 i2) (.int .i64 i3) (.int .i64 i4) (.bool b1) (.bool false) (.int .u32 i5) (.int .u32 i6) (.slice D' dl q')
                      have HK := Lib.hid hk
                      have HB := Lib.hid (below_grown HS9.out.bel hg HBW.out HGR.out)
                      have HP := Lib.hid ((ADP.out _ HS9.out.t).taken HS9.out.br i1 i2 i3 i4 b1 false i5 i6 D' dl q' hk hg)
                      have HO9 := Lib.hid ((ho9.base HS8.out.bel.size).grown HS9.out.br (by decide) hg)
                      clear hk hg ho9 hb9 PKT
                      go_wp2_with fail
                      clear r0 r1 r2 r3 r4 r5 r6 r7 r8 f0 f1 f2 f3 f4 f5 f6 f7 f8
                      generalize World.setCell _ _ (Value.slice D' dl q') = wf at HK HB HP HO9 ⊢
                      simp only [goes]
                      obtain ⟨d0, d1, d2, d3, d4, d5, d6, d7, d8⟩ := HK.out.cells9
                      have FIN : Hid (AddR B tb wait now A c L tm p w (.returned (.tuple #[.agg (pkV i1 i2 i3 i4 b1 false i5 i6 D' dl q'), .bool true, .int .i64 0])) wf) :=
                        ⟨HB.out, .inr ⟨x'.data, i1, i2, i3, i4, b1, false, i5, i6, D', q', by rw [EDL.out], HO9.out, HP.out⟩⟩
                      exact bodyPost_ret (v := .tuple #[.agg (pkV i1 i2 i3 i4 b1 false i5 i6 D' dl q'), .bool true, .int .i64 0]) (by simp [results, Try.results8, go_sem, d0, d1, d2, d3, d4, d5, d6, d7, d8]) rfl FIN.out
                    · have bmf : (mm != fi) = true := by simpa using hmf
                      have HMF : Hid (x'.many ≠ x'.fin) := by show _ ≠ _; rw [EMM.out, EFI.out]; exact hmf
                      clear hmf
                      go_upto_region 24 with fail
                      clear bmf
                      obtain ⟨r0, r1, r2, r3, r4, r5, r6, r7, r8⟩ := HS7.out.br.cells9
                      obtain ⟨f0, f1, f2, f3, f4, f5, f6, f7, f8⟩ := HS7.out.br.frees9
                      obtain ⟨hk, hg⟩ := HS7.out.br.store9 (.int .i64 0) (.int .i64 0) (.int .i64 0) (.int .i64 0) (.bool false) (.bool false) (.int .u32 0) (.int .u32 0) (.slice none 0 0)
                      have ADE : AddE B tb wait now A c L tm p 0 w7 := .inr ⟨EF.out, H1.out, .inr (.inr ⟨HM.out, A', c', L2, k, x, by rw [EL1.out]; exact HFO.out, .inr (.inr ⟨H64.out, ECZ.out, x', HPU.out, HGE.out, HMF.out, rfl, HS7.out.t⟩)⟩)⟩
                      have HK := Lib.hid hk
                      have HB := Lib.hid (below_grown HS7.out.bel hg HBW.out HGR.out)
                      have HE := Lib.hid (ADE.taken HS7.out.br 0 0 0 0 false false 0 0 none 0 0 hk hg)
                      clear hk hg ADE
                      go_wp2_with fail
                      generalize World.setCell _ _ (Value.slice none 0 0) = wf at HK HB HE ⊢
                      simp only [goes]
                      obtain ⟨d0, d1, d2, d3, d4, d5, d6, d7, d8⟩ := HK.out.cells9
                      exact bodyPost_ret (v := .tuple #[emptyV, .bool false, .int .i64 0]) (by simp [results, Try.results8, go_sem, d0, d1, d2, d3, d4, d5, d6, d7, d8]) rfl ⟨HB.out, .inl ⟨0, rfl, HE.out⟩⟩
end Go.Proofs.Ytpdkoooecnmjjaa
