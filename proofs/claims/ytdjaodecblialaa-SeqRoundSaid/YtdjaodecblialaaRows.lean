/-
  No cell of these rows narrows 'for every input' (looked for: loops, veiled, ifaces, maps, wideKeys, modest, calm, conditions, laid).
  DERIVED. THE GIVEN ROWS OF THIS SEAT. 8 by the template 'for every input the law returns true; each argument reads behind the call as it read before'; 0 by the template 'total and deterministic' (their statements: YtdjaodecblialaaTotals.lean).
  GIVEN WITH THE SEED: the statements are not yours to turn. If you find one false, say at which input.
  Laid BY PROGRAM, IN A SANDBOX (cutbox-rows.mjs): the forced cells as the released guide's own fill.sh prints them over the translation b536f03dc7f31eaa… (all of the seat's roots in one cut). By AI agents, Wed Nov 11 2026. No macro, syntax, notation, axiom, sorry.
-/
import Derived.Test.YtdjaodecblialaaChecked
import GoSem.Claim
import GoSem.ClaimJoined
import GoSem.ClaimMapViews
import Derived.JoinedTies
import Derived.KernelRfl
namespace Go.Proofs.Ytdjaodecblialaa
/- THE CELL 'sum', in the pinned program and in every row, IS THE sha256 OF THE DUMP (.gsa) THAT YtdjaodecblialaaProg.lean LOADS. Nothing in Lean hashes anything: it is a label: what it is worth is what the hold of that sum in a sandbox is worth. -/
noncomputable def Try.pinned : Pinned := { name := "ytdjaodecblialaa", sum := "b536f03dc7f31eaa872b71922b6ae5ec2cb8c9fdda996f18a89ef1ba9063a06e", checked := Try.checked }
namespace Rows
def none {H : Type} : Left H := { results := [], args := [] }

/-- 'pointsmanlaw01.SumRound': WHATEVER THE INPUT: true; the input reads as it did. -/
def sumRoundSpec : ChangeSpec := { name := "sumRound", fn := fun _ => fun
  | [d1, d2] => { results := [.lit (.bool true)], args := [d1, d2] }
  | _ => none }
def sumRoundRow : OpenClaim := { program := "ytdjaodecblialaa", sum := "b536f03dc7f31eaa872b71922b6ae5ec2cb8c9fdda996f18a89ef1ba9063a06e", func := "pointsman/pointsmanlaw01.SumRound", spec := "sumRound", apart := false }
def SumRoundSaid : Prop := sumRoundRow.holds Try.pinned (OpenSpec.ofChange sumRoundSpec)

/-- ITS FALSE NEIGHBOUR: 'it returns false'. Refute it at one input. -/
def sumRoundWrong : ChangeSpec := { name := "sumRound", fn := fun _ => fun
  | [d1, d2] => { results := [.lit (.bool false)], args := [d1, d2] }
  | _ => none }
def SumRoundWrongFalsely : Prop := sumRoundRow.holds Try.pinned (OpenSpec.ofChange sumRoundWrong)

/-- 'pointsmanlaw01.SumAdds': WHATEVER THE INPUT: true; the input reads as it did. -/
def sumAddsSpec : ChangeSpec := { name := "sumAdds", fn := fun _ => fun
  | [d1, d2] => { results := [.lit (.bool true)], args := [d1, d2] }
  | _ => none }
def sumAddsRow : OpenClaim := { program := "ytdjaodecblialaa", sum := "b536f03dc7f31eaa872b71922b6ae5ec2cb8c9fdda996f18a89ef1ba9063a06e", func := "pointsman/pointsmanlaw01.SumAdds", spec := "sumAdds", apart := false }
def SumAddsSaid : Prop := sumAddsRow.holds Try.pinned (OpenSpec.ofChange sumAddsSpec)

/-- ITS FALSE NEIGHBOUR: 'it returns false'. Refute it at one input. -/
def sumAddsWrong : ChangeSpec := { name := "sumAdds", fn := fun _ => fun
  | [d1, d2] => { results := [.lit (.bool false)], args := [d1, d2] }
  | _ => none }
def SumAddsWrongFalsely : Prop := sumAddsRow.holds Try.pinned (OpenSpec.ofChange sumAddsWrong)

/-- 'pointsmanlaw01.SumRight': WHATEVER THE INPUT: true; the input reads as it did. -/
def sumRightSpec : ChangeSpec := { name := "sumRight", fn := fun _ => fun
  | [d1, d2] => { results := [.lit (.bool true)], args := [d1, d2] }
  | _ => none }
def sumRightRow : OpenClaim := { program := "ytdjaodecblialaa", sum := "b536f03dc7f31eaa872b71922b6ae5ec2cb8c9fdda996f18a89ef1ba9063a06e", func := "pointsman/pointsmanlaw01.SumRight", spec := "sumRight", apart := false }
def SumRightSaid : Prop := sumRightRow.holds Try.pinned (OpenSpec.ofChange sumRightSpec)

/-- ITS FALSE NEIGHBOUR: 'it returns false'. Refute it at one input. -/
def sumRightWrong : ChangeSpec := { name := "sumRight", fn := fun _ => fun
  | [d1, d2] => { results := [.lit (.bool false)], args := [d1, d2] }
  | _ => none }
def SumRightWrongFalsely : Prop := sumRightRow.holds Try.pinned (OpenSpec.ofChange sumRightWrong)

/-- 'pointsmanlaw01.SumTurned': WHATEVER THE INPUT: true; the input reads as it did. -/
def sumTurnedSpec : ChangeSpec := { name := "sumTurned", fn := fun _ => fun
  | [d1, d2, d3] => { results := [.lit (.bool true)], args := [d1, d2, d3] }
  | _ => none }
def sumTurnedRow : OpenClaim := { program := "ytdjaodecblialaa", sum := "b536f03dc7f31eaa872b71922b6ae5ec2cb8c9fdda996f18a89ef1ba9063a06e", func := "pointsman/pointsmanlaw01.SumTurned", spec := "sumTurned", apart := false }
def SumTurnedSaid : Prop := sumTurnedRow.holds Try.pinned (OpenSpec.ofChange sumTurnedSpec)

/-- ITS FALSE NEIGHBOUR: 'it returns false'. Refute it at one input. -/
def sumTurnedWrong : ChangeSpec := { name := "sumTurned", fn := fun _ => fun
  | [d1, d2, d3] => { results := [.lit (.bool false)], args := [d1, d2, d3] }
  | _ => none }
def SumTurnedWrongFalsely : Prop := sumTurnedRow.holds Try.pinned (OpenSpec.ofChange sumTurnedWrong)

/-- 'pointsmanlaw10.SeqAccepts': WHATEVER THE INPUT: true; the input reads as it did. -/
def seqAcceptsSpec : ChangeSpec := { name := "seqAccepts", fn := fun _ => fun
  | [d1, d2, d3, d4] => { results := [.lit (.bool true)], args := [d1, d2, d3, d4] }
  | _ => none }
def seqAcceptsRow : OpenClaim := { program := "ytdjaodecblialaa", sum := "b536f03dc7f31eaa872b71922b6ae5ec2cb8c9fdda996f18a89ef1ba9063a06e", func := "pointsman/pointsmanlaw10.SeqAccepts", spec := "seqAccepts", apart := false }
def SeqAcceptsSaid : Prop := seqAcceptsRow.holds Try.pinned (OpenSpec.ofChange seqAcceptsSpec)

/-- ITS FALSE NEIGHBOUR: 'it returns false'. Refute it at one input. -/
def seqAcceptsWrong : ChangeSpec := { name := "seqAccepts", fn := fun _ => fun
  | [d1, d2, d3, d4] => { results := [.lit (.bool false)], args := [d1, d2, d3, d4] }
  | _ => none }
def SeqAcceptsWrongFalsely : Prop := seqAcceptsRow.holds Try.pinned (OpenSpec.ofChange seqAcceptsWrong)

/-- 'pointsmanlaw10.SeqTrims': WHATEVER THE INPUT: true; the input reads as it did. -/
def seqTrimsSpec : ChangeSpec := { name := "seqTrims", fn := fun _ => fun
  | [d1, d2, d3, d4] => { results := [.lit (.bool true)], args := [d1, d2, d3, d4] }
  | _ => none }
def seqTrimsRow : OpenClaim := { program := "ytdjaodecblialaa", sum := "b536f03dc7f31eaa872b71922b6ae5ec2cb8c9fdda996f18a89ef1ba9063a06e", func := "pointsman/pointsmanlaw10.SeqTrims", spec := "seqTrims", apart := false }
def SeqTrimsSaid : Prop := seqTrimsRow.holds Try.pinned (OpenSpec.ofChange seqTrimsSpec)

/-- ITS FALSE NEIGHBOUR: 'it returns false'. Refute it at one input. -/
def seqTrimsWrong : ChangeSpec := { name := "seqTrims", fn := fun _ => fun
  | [d1, d2, d3, d4] => { results := [.lit (.bool false)], args := [d1, d2, d3, d4] }
  | _ => none }
def SeqTrimsWrongFalsely : Prop := seqTrimsRow.holds Try.pinned (OpenSpec.ofChange seqTrimsWrong)

/-- 'pointsmanlaw10.SeqTells': WHATEVER THE INPUT: true; the input reads as it did. -/
def seqTellsSpec : ChangeSpec := { name := "seqTells", fn := fun _ => fun
  | [d1, d2, d3, d4] => { results := [.lit (.bool true)], args := [d1, d2, d3, d4] }
  | _ => none }
def seqTellsRow : OpenClaim := { program := "ytdjaodecblialaa", sum := "b536f03dc7f31eaa872b71922b6ae5ec2cb8c9fdda996f18a89ef1ba9063a06e", func := "pointsman/pointsmanlaw10.SeqTells", spec := "seqTells", apart := false }
def SeqTellsSaid : Prop := seqTellsRow.holds Try.pinned (OpenSpec.ofChange seqTellsSpec)

/-- ITS FALSE NEIGHBOUR: 'it returns false'. Refute it at one input. -/
def seqTellsWrong : ChangeSpec := { name := "seqTells", fn := fun _ => fun
  | [d1, d2, d3, d4] => { results := [.lit (.bool false)], args := [d1, d2, d3, d4] }
  | _ => none }
def SeqTellsWrongFalsely : Prop := seqTellsRow.holds Try.pinned (OpenSpec.ofChange seqTellsWrong)

/-- 'pointsmanlaw10.SeqRound': WHATEVER THE INPUT: true; the input reads as it did. -/
def seqRoundSpec : ChangeSpec := { name := "seqRound", fn := fun _ => fun
  | [d1, d2, d3, d4, d5, d6] => { results := [.lit (.bool true)], args := [d1, d2, d3, d4, d5, d6] }
  | _ => none }
def seqRoundRow : OpenClaim := { program := "ytdjaodecblialaa", sum := "b536f03dc7f31eaa872b71922b6ae5ec2cb8c9fdda996f18a89ef1ba9063a06e", func := "pointsman/pointsmanlaw10.SeqRound", spec := "seqRound", apart := false }
def SeqRoundSaid : Prop := seqRoundRow.holds Try.pinned (OpenSpec.ofChange seqRoundSpec)

/-- ITS FALSE NEIGHBOUR: 'it returns false'. Refute it at one input. -/
def seqRoundWrong : ChangeSpec := { name := "seqRound", fn := fun _ => fun
  | [d1, d2, d3, d4, d5, d6] => { results := [.lit (.bool false)], args := [d1, d2, d3, d4, d5, d6] }
  | _ => none }
def SeqRoundWrongFalsely : Prop := seqRoundRow.holds Try.pinned (OpenSpec.ofChange seqRoundWrong)

/- THE SECOND FORM. 'bulk': how many values and letters a reading holds, each counted each time it is reached (what is shared counts as often as it is met; a slice's spare places count too). A statement '..UptoSaid' is the law's where the arguments, and the package variables that the reading takes, are together of bulk at most 1048576: NARROWER than '..Said'. Prove '..Said' where nothing that the law and all that it calls make is longer than what came in: it says more and counts as full. Else prove '..UptoSaid'. A law counts once. -/
mutual
def uptoBulk {H : Type} : DataW H → Nat
  | .lit (.string bytes) => bytes.length + 1
  | .lit _ => 1
  | .nil => 1
  | .ptr d => uptoBulk d + 1
  | .slice elems spare => uptoBulkAll elems + uptoBulkAll spare + 1
  | .agg parts => uptoBulkAll parts + 1
  | .iface _ d => uptoBulk d + 1
  | .map entries => uptoBulkEntries entries + 1
  | .held _ => 1
def uptoBulkAll {H : Type} : List (DataW H) → Nat
  | [] => 0
  | d :: r => uptoBulk d + uptoBulkAll r
def uptoBulkEntries {H : Type} : List (Lit × DataW H) → Nat
  | [] => 0
  | x :: r => uptoBulkEntry x + uptoBulkEntries r
def uptoBulkEntry {H : Type} : Lit × DataW H → Nat
  | (.string bytes, d) => bytes.length + uptoBulk d + 1
  | (_, d) => uptoBulk d + 1
 end
def uptoSmall : (H : Type) → List (DataW H) → Bool := fun _ ds => decide (uptoBulkAll ds ≤ 1048576)
def OpenSpec.upto (s : _root_.Go.ChangeSpec) : _root_.Go.OpenSpec := { _root_.Go.OpenSpec.ofChange s with cond := some uptoSmall }

/-- 'pointsmanlaw01.SumRound', WHERE WHAT IT READS IS OF BULK AT MOST 1048576: true; the input reads as it did. -/
def sumRoundUptoRow : OpenClaim := { program := "ytdjaodecblialaa", sum := "b536f03dc7f31eaa872b71922b6ae5ec2cb8c9fdda996f18a89ef1ba9063a06e", func := "pointsman/pointsmanlaw01.SumRound", spec := "sumRound", apart := false, narrowed := true }
def SumRoundUptoSaid : Prop := sumRoundUptoRow.holds Try.pinned (OpenSpec.upto sumRoundSpec)

/-- 'pointsmanlaw01.SumAdds', WHERE WHAT IT READS IS OF BULK AT MOST 1048576: true; the input reads as it did. -/
def sumAddsUptoRow : OpenClaim := { program := "ytdjaodecblialaa", sum := "b536f03dc7f31eaa872b71922b6ae5ec2cb8c9fdda996f18a89ef1ba9063a06e", func := "pointsman/pointsmanlaw01.SumAdds", spec := "sumAdds", apart := false, narrowed := true }
def SumAddsUptoSaid : Prop := sumAddsUptoRow.holds Try.pinned (OpenSpec.upto sumAddsSpec)

/-- 'pointsmanlaw01.SumRight', WHERE WHAT IT READS IS OF BULK AT MOST 1048576: true; the input reads as it did. -/
def sumRightUptoRow : OpenClaim := { program := "ytdjaodecblialaa", sum := "b536f03dc7f31eaa872b71922b6ae5ec2cb8c9fdda996f18a89ef1ba9063a06e", func := "pointsman/pointsmanlaw01.SumRight", spec := "sumRight", apart := false, narrowed := true }
def SumRightUptoSaid : Prop := sumRightUptoRow.holds Try.pinned (OpenSpec.upto sumRightSpec)

/-- 'pointsmanlaw01.SumTurned', WHERE WHAT IT READS IS OF BULK AT MOST 1048576: true; the input reads as it did. -/
def sumTurnedUptoRow : OpenClaim := { program := "ytdjaodecblialaa", sum := "b536f03dc7f31eaa872b71922b6ae5ec2cb8c9fdda996f18a89ef1ba9063a06e", func := "pointsman/pointsmanlaw01.SumTurned", spec := "sumTurned", apart := false, narrowed := true }
def SumTurnedUptoSaid : Prop := sumTurnedUptoRow.holds Try.pinned (OpenSpec.upto sumTurnedSpec)

/-- 'pointsmanlaw10.SeqAccepts', WHERE WHAT IT READS IS OF BULK AT MOST 1048576: true; the input reads as it did. -/
def seqAcceptsUptoRow : OpenClaim := { program := "ytdjaodecblialaa", sum := "b536f03dc7f31eaa872b71922b6ae5ec2cb8c9fdda996f18a89ef1ba9063a06e", func := "pointsman/pointsmanlaw10.SeqAccepts", spec := "seqAccepts", apart := false, narrowed := true }
def SeqAcceptsUptoSaid : Prop := seqAcceptsUptoRow.holds Try.pinned (OpenSpec.upto seqAcceptsSpec)

/-- 'pointsmanlaw10.SeqTrims', WHERE WHAT IT READS IS OF BULK AT MOST 1048576: true; the input reads as it did. -/
def seqTrimsUptoRow : OpenClaim := { program := "ytdjaodecblialaa", sum := "b536f03dc7f31eaa872b71922b6ae5ec2cb8c9fdda996f18a89ef1ba9063a06e", func := "pointsman/pointsmanlaw10.SeqTrims", spec := "seqTrims", apart := false, narrowed := true }
def SeqTrimsUptoSaid : Prop := seqTrimsUptoRow.holds Try.pinned (OpenSpec.upto seqTrimsSpec)

/-- 'pointsmanlaw10.SeqTells', WHERE WHAT IT READS IS OF BULK AT MOST 1048576: true; the input reads as it did. -/
def seqTellsUptoRow : OpenClaim := { program := "ytdjaodecblialaa", sum := "b536f03dc7f31eaa872b71922b6ae5ec2cb8c9fdda996f18a89ef1ba9063a06e", func := "pointsman/pointsmanlaw10.SeqTells", spec := "seqTells", apart := false, narrowed := true }
def SeqTellsUptoSaid : Prop := seqTellsUptoRow.holds Try.pinned (OpenSpec.upto seqTellsSpec)

/-- 'pointsmanlaw10.SeqRound', WHERE WHAT IT READS IS OF BULK AT MOST 1048576: true; the input reads as it did. -/
def seqRoundUptoRow : OpenClaim := { program := "ytdjaodecblialaa", sum := "b536f03dc7f31eaa872b71922b6ae5ec2cb8c9fdda996f18a89ef1ba9063a06e", func := "pointsman/pointsmanlaw10.SeqRound", spec := "seqRound", apart := false, narrowed := true }
def SeqRoundUptoSaid : Prop := seqRoundUptoRow.holds Try.pinned (OpenSpec.upto seqRoundSpec)

end Rows
end Go.Proofs.Ytdjaodecblialaa
