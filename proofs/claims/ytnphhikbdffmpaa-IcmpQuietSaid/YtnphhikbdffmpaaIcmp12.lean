/-
  ip.Build in all cases; the walk of icmp.quiet.
-/
import Derived.Test.YtnphhikbdffmpaaIcmp10
import Derived.Test.YtnphhikbdffmpaaRefIp2
namespace Go.Proofs.Ytnphhikbdffmpaa
open Go.RowKit
set_option linter.unusedVariables false

def errIp (id at_ life kind : Int) (n : Nat) : Int := if rightP id at_ life kind then (if (65515 : Int) < n then 3 else 0) else 2
def outIp (id at_ life kind : Int) (wh mo : Bool) (f t : Int) (bs : List UInt8) : List UInt8 := if errIp id at_ life kind bs.length = 0 then ipBytes id at_ life kind wh mo f t bs else []
def IpBuilt (id at_ life kind : Int) (wh mo : Bool) (f t : Int) (bs : List UInt8) (w : World) (e : Ending) (w' : World) : Prop :=
  ∃ X x, e = .returned (.tuple #[.slice X (outIp id at_ life kind wh mo f t bs).length x, .int .i64 (errIp id at_ life kind bs.length)]) ∧ Sl w' X x (outIp id at_ life kind wh mo f t bs) ∧ Below w.heap.size w w'
section
variable {id at_ life kind : Int} {wh mo : Bool} {f t : Int} {bs : List UInt8} {w w' : World} {e : Ending}
theorem ipBytes_length (n : Nat) (hn : bs.length = n) : (ipBytes id at_ life kind wh mo f t bs).length = 20 + n := by
  rw [ipBytes, List.length_append, hdr1, put2_length, hn]
  rfl
theorem ip_no {z : Int} (h : errIp id at_ life kind bs.length = z) (hz : z ≠ 0) (h' : e = .returned (.tuple #[.slice none 0 0, .int .i64 z]) ∧ Below w.heap.size w w') : IpBuilt id at_ life kind wh mo f t bs w e w' := by
  have eo : outIp id at_ life kind wh mo f t bs = [] := by rw [outIp, if_neg (by rw [h]; exact hz)]
  refine ⟨none, 0, ?_, ?_, h'.2⟩
  · rw [eo, h]; exact h'.1
  · rw [eo]; exact (Own.nil w' 0).sl
theorem ip_yes (n : Nat) (hn : bs.length = n) (h : errIp id at_ life kind bs.length = 0) (h' : ∃ X x, e = .returned (.tuple #[.slice X (20 + n) x, .int .i64 0]) ∧ Sl w' X x (ipBytes id at_ life kind wh mo f t bs) ∧ Below w.heap.size w w') : IpBuilt id at_ life kind wh mo f t bs w e w' := by
  have eo : outIp id at_ life kind wh mo f t bs = ipBytes id at_ life kind wh mo f t bs := by rw [outIp, if_pos h]
  obtain ⟨X, x, h1, h2, h3⟩ := h'
  exact ⟨X, x, by rw [eo, h, ipBytes_length n hn]; exact h1, by rw [eo]; exact h2, h3⟩
end
theorem ipbuild_n (id at_ life kind : Int) (wh mo : Bool) (f t : Int) (D : Option Addr) (bs : List UInt8) (n c : Nat) (w : World) (hn : bs.length = n) (hs : Sl w D c bs) (f0 : 0 ≤ f) (f1 : f < 4294967296) (t0 : 0 ≤ t) (t1 : t < 4294967296) :
    Calls Try.prog 29 #[.agg (packet id at_ life kind wh mo f t D n c)] w (IpBuilt id at_ life kind wh mo f t bs w) := by
  by_cases h : rightP id at_ life kind
  · by_cases hl : (65515 : Int) < n
    · exact (ipbuild_long id at_ life kind wh mo f t D n c w h hl).mono fun _ _ h' => ip_no (by rw [errIp, if_pos h, hn, if_pos hl]) (by omega) h'
    · exact (ipbuild_any id at_ life kind wh mo f t D bs n c w hn hs h (by omega) f0 f1 t0 t1).mono fun _ _ h' => ip_yes n hn (by rw [errIp, if_pos h, hn, if_neg hl]) h'
  · exact (ipbuild_arg id at_ life kind wh mo f t D n c w h).mono fun _ _ h' => ip_no (by rw [errIp, if_neg h]) (by omega) h'
theorem ripbuild_n (id at_ life kind : Int) (wh mo : Bool) (f t : Int) (D : Option Addr) (bs : List UInt8) (n c : Nat) (w : World) (hn : bs.length = n) (hs : Sl w D c bs) (f0 : 0 ≤ f) (f1 : f < 4294967296) (t0 : 0 ≤ t) (t1 : t < 4294967296) :
    Calls Try.prog 31 #[.agg (packet id at_ life kind wh mo f t D n c)] w (IpBuilt id at_ life kind wh mo f t bs w) := by
  by_cases h : rightP id at_ life kind
  · by_cases hl : (65515 : Int) < n
    · exact (ripbuild_long id at_ life kind wh mo f t D n c w h hl).mono fun _ _ h' => ip_no (by rw [errIp, if_pos h, hn, if_pos hl]) (by omega) h'
    · exact (ripbuild_any id at_ life kind wh mo f t D bs n c w hn hs h (by omega) f0 f1 t0 t1).mono fun _ _ h' => ip_yes n hn (by rw [errIp, if_pos h, hn, if_neg hl]) h'
  · exact (ripbuild_arg id at_ life kind wh mo f t D n c w h).mono fun _ _ h' => ip_no (by rw [errIp, if_neg h]) (by omega) h'

def quietB (me at_ kind f t : Int) (bs : List UInt8) : Bool := (at_ != 0) || (t != me) || (f == 0) || (f == 4294967295) || ((kind == 1) && ((errR bs != 0) || (kindR bs != 8)))

set_option maxHeartbeats 4000000 in
set_option maxRecDepth 100000 in
theorem quiet_any (me id at_ life kind : Int) (wh mo : Bool) (f t : Int) (D : Option Addr) (bs : List UInt8) (n c : Nat) (w : World) (hn : bs.length = n) (hs : Sl w D c bs) (hl : bs.length ≤ 70000) :
    Calls Try.prog 30 #[.int .u32 me, .agg (packet id at_ life kind wh mo f t D n c)] w fun e w' => e = .returned (.bool (quietB me at_ kind f t bs)) ∧ Below w.heap.size w w' := by
  have hb1 : Below w.heap.size w (w.alloc (.cells (packet id at_ life kind wh mo f t D n c) 41)) := (Below.refl _ _).alloc (Nat.le_refl _) _
  have hs1 := hs.below hb1
  have hbx := blk_new w 41 (packet id at_ life kind wh mo f t D n c)
  have HN := Lib.hid hn
  have HL := Lib.hid hl
  have HQ : Hid (quietB me at_ kind f t bs = ((at_ != 0) || (t != me) || (f == 0) || (f == 4294967295) || ((kind == 1) && ((errR bs != 0) || (kindR bs != 8))))) := rfl
  have HB := Lib.hid hb1
  have HS := Lib.hid hs1
  have HX := Lib.hid hbx
  clear hn hs hl hb1 hs1 hbx
  cases h1 : (at_ != 0)
  · cases h2 : (t != me)
    · cases h3 : (f == 0)
      · cases h4 : (f == 4294967295)
        · go_enter Try.func30, Try.ntmps30
          go_wp2_with fail
          have hbx := HX.out
          have hb1 := HB.out
          have hs1 := HS.out
          generalize w.alloc (.cells (packet id at_ life kind wh mo f t D n c) 41) = w1 at *
          refine (read_n D bs n c _ HN.out hs1 HL.out).mono ?_
          rintro e w2 ⟨X, x, rfl, ho, hb2⟩
          obtain ⟨kR, EK⟩ : ∃ z, Hid (kindR bs = z) := ⟨_, rfl⟩
          obtain ⟨cR, EC⟩ : ∃ z, Hid (codeR bs = z) := ⟨_, rfl⟩
          obtain ⟨rR, ER⟩ : ∃ z, Hid (restR bs = z) := ⟨_, rfl⟩
          obtain ⟨eR, EE⟩ : ∃ z, Hid (errR bs = z) := ⟨_, rfl⟩
          obtain ⟨dn, ED⟩ : ∃ z, Hid ((dataR bs).length = z) := ⟨_, rfl⟩
          rw [EK.out, EE.out] at HQ
          rw [EK.out, EC.out, ER.out, EE.out, ED.out]
          replace hb1 := hb1.trans (hb2.mono hb1.size)
          have hbf := hb1.alloc hb1.size (.cells #[.int .i64 kR, .int .i64 cR, .int .u32 rR, .slice X dn x] 25)
          replace hbx := blk_old (hbx.below hb2 hbx.lt) (.cells #[.int .i64 kR, .int .i64 cR, .int .u32 rR, .slice X dn x] 25)
          obtain ⟨x0, x1, x2, x3, x4, x5, x6, x7, x8⟩ := hbx.cells9
          have HBF := Lib.hid hbf
          clear hbf hb1 hb2 ho hs1 hbx HB HS HX
          cases h5 : (kind == 1)
          · go_wp2_with fail
            go_ret
            exact ⟨by rw [HQ.out, h1, h2, h3, h4, h5]; rfl, HBF.out⟩
          · cases h6 : (eR != 0)
            · cases h7 : (kR != 8)
              · go_wp2_with fail
                go_ret
                exact ⟨by rw [HQ.out, h1, h2, h3, h4, h5, h6, h7]; rfl, HBF.out⟩
              · go_wp2_with fail
                go_ret
                exact ⟨by rw [HQ.out, h1, h2, h3, h4, h5, h6, h7]; rfl, HBF.out⟩
            · go_wp2_with fail
              go_ret
              exact ⟨by rw [HQ.out, h1, h2, h3, h4, h5, h6]; rfl, HBF.out⟩
        · go_enter Try.func30, Try.ntmps30
          go_wp2_with fail
          go_ret
          exact ⟨by rw [HQ.out, h1, h2, h3, h4]; rfl, HB.out⟩
      · go_enter Try.func30, Try.ntmps30
        go_wp2_with fail
        go_ret
        exact ⟨by rw [HQ.out, h1, h2, h3]; rfl, HB.out⟩
    · go_enter Try.func30, Try.ntmps30
      go_wp2_with fail
      go_ret
      exact ⟨by rw [HQ.out, h1, h2]; rfl, HB.out⟩
  · go_enter Try.func30, Try.ntmps30
    go_wp2_with fail
    go_ret
    exact ⟨by rw [HQ.out, h1]; rfl, HB.out⟩
end Go.Proofs.Ytnphhikbdffmpaa
