/-
  No cell of these rows narrows 'for every input' (looked for: loops, veiled, ifaces, maps, wideKeys, modest, calm, conditions, laid).
  DERIVED. THE GIVEN ROWS OF THIS SEAT. 4 by the template 'for every input the law returns true; each argument reads behind the call as it read before'; 0 by the template 'total and deterministic' (their statements: YtfijbbhoemdhbaaTotals.lean).
  GIVEN WITH THE SEED: the statements are not yours to turn. If you find one false, say at which input.
  Laid BY PROGRAM, IN A SANDBOX (cutbox-rows.mjs): the forced cells as the released guide's own fill.sh prints them over the translation 3a4e19f39a603a74… (all of the seat's roots in one cut). By AI agents, Wed Nov 11 2026. No macro, syntax, notation, axiom, sorry.
-/
import Derived.Test.YtfijbbhoemdhbaaChecked
import GoSem.Claim
import GoSem.ClaimJoined
import GoSem.ClaimMapViews
import Derived.JoinedTies
import Derived.KernelRfl
namespace Go.Proofs.Ytfijbbhoemdhbaa
/- THE CELL 'sum', in the pinned program and in every row, IS THE sha256 OF THE DUMP (.gsa) THAT YtfijbbhoemdhbaaProg.lean LOADS. Nothing in Lean hashes anything: it is a label: what it is worth is what the hold of that sum in a sandbox is worth. -/
noncomputable def Try.pinned : Pinned := { name := "ytfijbbhoemdhbaa", sum := "3a4e19f39a603a747304317f37e583ca9a043ffc20f992ea336029a9b2297645", checked := Try.checked }
namespace Rows
def none {H : Type} : Left H := { results := [], args := [] }

/-- 'pointsmanlaw12.JoinStream': WHATEVER THE INPUT: true; the input reads as it did. -/
def joinStreamSpec : ChangeSpec := { name := "joinStream", fn := fun _ => fun
  | [d1, d2, d3, d4, d5] => { results := [.lit (.bool true)], args := [d1, d2, d3, d4, d5] }
  | _ => none }
def joinStreamRow : OpenClaim := { program := "ytfijbbhoemdhbaa", sum := "3a4e19f39a603a747304317f37e583ca9a043ffc20f992ea336029a9b2297645", func := "pointsman/pointsmanlaw12.JoinStream", spec := "joinStream", apart := false }
def JoinStreamSaid : Prop := joinStreamRow.holds Try.pinned (OpenSpec.ofChange joinStreamSpec)

/-- ITS FALSE NEIGHBOUR: 'it returns false'. Refute it at one input. -/
def joinStreamWrong : ChangeSpec := { name := "joinStream", fn := fun _ => fun
  | [d1, d2, d3, d4, d5] => { results := [.lit (.bool false)], args := [d1, d2, d3, d4, d5] }
  | _ => none }
def JoinStreamWrongFalsely : Prop := joinStreamRow.holds Try.pinned (OpenSpec.ofChange joinStreamWrong)

/-- 'pointsmanlaw12.JoinPlays': WHATEVER THE INPUT: true; the input reads as it did. -/
def joinPlaysSpec : ChangeSpec := { name := "joinPlays", fn := fun _ => fun
  | [d1, d2, d3] => { results := [.lit (.bool true)], args := [d1, d2, d3] }
  | _ => none }
def joinPlaysRow : OpenClaim := { program := "ytfijbbhoemdhbaa", sum := "3a4e19f39a603a747304317f37e583ca9a043ffc20f992ea336029a9b2297645", func := "pointsman/pointsmanlaw12.JoinPlays", spec := "joinPlays", apart := false }
def JoinPlaysSaid : Prop := joinPlaysRow.holds Try.pinned (OpenSpec.ofChange joinPlaysSpec)

/-- ITS FALSE NEIGHBOUR: 'it returns false'. Refute it at one input. -/
def joinPlaysWrong : ChangeSpec := { name := "joinPlays", fn := fun _ => fun
  | [d1, d2, d3] => { results := [.lit (.bool false)], args := [d1, d2, d3] }
  | _ => none }
def JoinPlaysWrongFalsely : Prop := joinPlaysRow.holds Try.pinned (OpenSpec.ofChange joinPlaysWrong)

/-- 'pointsmanlaw12.JoinBounded': WHATEVER THE INPUT: true; the input reads as it did. -/
def joinBoundedSpec : ChangeSpec := { name := "joinBounded", fn := fun _ => fun
  | [d1, d2, d3] => { results := [.lit (.bool true)], args := [d1, d2, d3] }
  | _ => none }
def joinBoundedRow : OpenClaim := { program := "ytfijbbhoemdhbaa", sum := "3a4e19f39a603a747304317f37e583ca9a043ffc20f992ea336029a9b2297645", func := "pointsman/pointsmanlaw12.JoinBounded", spec := "joinBounded", apart := false }
def JoinBoundedSaid : Prop := joinBoundedRow.holds Try.pinned (OpenSpec.ofChange joinBoundedSpec)

/-- ITS FALSE NEIGHBOUR: 'it returns false'. Refute it at one input. -/
def joinBoundedWrong : ChangeSpec := { name := "joinBounded", fn := fun _ => fun
  | [d1, d2, d3] => { results := [.lit (.bool false)], args := [d1, d2, d3] }
  | _ => none }
def JoinBoundedWrongFalsely : Prop := joinBoundedRow.holds Try.pinned (OpenSpec.ofChange joinBoundedWrong)

/-- 'pointsmanlaw12.JoinVoid': WHATEVER THE INPUT: true; the input reads as it did. -/
def joinVoidSpec : ChangeSpec := { name := "joinVoid", fn := fun _ => fun
  | [d1, d2, d3] => { results := [.lit (.bool true)], args := [d1, d2, d3] }
  | _ => none }
def joinVoidRow : OpenClaim := { program := "ytfijbbhoemdhbaa", sum := "3a4e19f39a603a747304317f37e583ca9a043ffc20f992ea336029a9b2297645", func := "pointsman/pointsmanlaw12.JoinVoid", spec := "joinVoid", apart := false }
def JoinVoidSaid : Prop := joinVoidRow.holds Try.pinned (OpenSpec.ofChange joinVoidSpec)

/-- ITS FALSE NEIGHBOUR: 'it returns false'. Refute it at one input. -/
def joinVoidWrong : ChangeSpec := { name := "joinVoid", fn := fun _ => fun
  | [d1, d2, d3] => { results := [.lit (.bool false)], args := [d1, d2, d3] }
  | _ => none }
def JoinVoidWrongFalsely : Prop := joinVoidRow.holds Try.pinned (OpenSpec.ofChange joinVoidWrong)

/- THE SECOND FORM. 'bulk': how many values and letters a reading holds, each counted each time it is reached (what is shared counts as often as it is met; a slice's spare places count too). A statement '..UptoSaid' is the law's where the arguments, and the package variables that the reading takes, are together of bulk at most 1048576: NARROWER than '..Said'. Prove '..Said' where nothing that the law and all that it calls make is longer than what came in: it says more and counts as full. Else prove '..UptoSaid'. A law counts once. -/
mutual
def uptoBulk {H : Type} : DataW H → Nat
  | .lit (.string bytes) => bytes.length + 1
  | .lit _ => 1
  | .nil => 1
  | .ptr d => uptoBulk d + 1
  | .slice elems spare => uptoBulkAll elems + uptoBulkAll spare + 1
  | .agg parts => uptoBulkAll parts + 1
  | .iface _ d => uptoBulk d + 1
  | .map entries => uptoBulkEntries entries + 1
  | .held _ => 1
def uptoBulkAll {H : Type} : List (DataW H) → Nat
  | [] => 0
  | d :: r => uptoBulk d + uptoBulkAll r
def uptoBulkEntries {H : Type} : List (Lit × DataW H) → Nat
  | [] => 0
  | x :: r => uptoBulkEntry x + uptoBulkEntries r
def uptoBulkEntry {H : Type} : Lit × DataW H → Nat
  | (.string bytes, d) => bytes.length + uptoBulk d + 1
  | (_, d) => uptoBulk d + 1
 end
def uptoSmall : (H : Type) → List (DataW H) → Bool := fun _ ds => decide (uptoBulkAll ds ≤ 1048576)
def OpenSpec.upto (s : _root_.Go.ChangeSpec) : _root_.Go.OpenSpec := { _root_.Go.OpenSpec.ofChange s with cond := some uptoSmall }

/-- 'pointsmanlaw12.JoinStream', WHERE WHAT IT READS IS OF BULK AT MOST 1048576: true; the input reads as it did. -/
def joinStreamUptoRow : OpenClaim := { program := "ytfijbbhoemdhbaa", sum := "3a4e19f39a603a747304317f37e583ca9a043ffc20f992ea336029a9b2297645", func := "pointsman/pointsmanlaw12.JoinStream", spec := "joinStream", apart := false, narrowed := true }
def JoinStreamUptoSaid : Prop := joinStreamUptoRow.holds Try.pinned (OpenSpec.upto joinStreamSpec)

/-- 'pointsmanlaw12.JoinPlays', WHERE WHAT IT READS IS OF BULK AT MOST 1048576: true; the input reads as it did. -/
def joinPlaysUptoRow : OpenClaim := { program := "ytfijbbhoemdhbaa", sum := "3a4e19f39a603a747304317f37e583ca9a043ffc20f992ea336029a9b2297645", func := "pointsman/pointsmanlaw12.JoinPlays", spec := "joinPlays", apart := false, narrowed := true }
def JoinPlaysUptoSaid : Prop := joinPlaysUptoRow.holds Try.pinned (OpenSpec.upto joinPlaysSpec)

/-- 'pointsmanlaw12.JoinBounded', WHERE WHAT IT READS IS OF BULK AT MOST 1048576: true; the input reads as it did. -/
def joinBoundedUptoRow : OpenClaim := { program := "ytfijbbhoemdhbaa", sum := "3a4e19f39a603a747304317f37e583ca9a043ffc20f992ea336029a9b2297645", func := "pointsman/pointsmanlaw12.JoinBounded", spec := "joinBounded", apart := false, narrowed := true }
def JoinBoundedUptoSaid : Prop := joinBoundedUptoRow.holds Try.pinned (OpenSpec.upto joinBoundedSpec)

/-- 'pointsmanlaw12.JoinVoid', WHERE WHAT IT READS IS OF BULK AT MOST 1048576: true; the input reads as it did. -/
def joinVoidUptoRow : OpenClaim := { program := "ytfijbbhoemdhbaa", sum := "3a4e19f39a603a747304317f37e583ca9a043ffc20f992ea336029a9b2297645", func := "pointsman/pointsmanlaw12.JoinVoid", spec := "joinVoid", apart := false, narrowed := true }
def JoinVoidUptoSaid : Prop := joinVoidUptoRow.holds Try.pinned (OpenSpec.upto joinVoidSpec)

end Rows
end Go.Proofs.Ytfijbbhoemdhbaa
