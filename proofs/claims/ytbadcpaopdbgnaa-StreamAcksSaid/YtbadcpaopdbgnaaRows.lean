/-
  No cell of these rows narrows 'for every input' (looked for: loops, veiled, ifaces, maps, wideKeys, modest, calm, conditions, laid).
  DERIVED. THE GIVEN ROWS OF THIS SEAT. 7 by the template 'for every input the law returns true; each argument reads behind the call as it read before'; 0 by the template 'total and deterministic' (their statements: YtbadcpaopdbgnaaTotals.lean).
  GIVEN WITH THE SEED: the statements are not yours to turn. If you find one false, say at which input.
  Laid BY PROGRAM, IN A SANDBOX (cutbox-rows.mjs): the forced cells as the released guide's own fill.sh prints them over the translation f05055c59dc648de… (all of the seat's roots in one cut). By AI agents, Wed Nov 11 2026. No macro, syntax, notation, axiom, sorry.
-/
import Derived.Test.YtbadcpaopdbgnaaChecked
import GoSem.Claim
import GoSem.ClaimJoined
import GoSem.ClaimMapViews
import Derived.JoinedTies
import Derived.KernelRfl
namespace Go.Proofs.Ytbadcpaopdbgnaa
/- THE CELL 'sum', in the pinned program and in every row, IS THE sha256 OF THE DUMP (.gsa) THAT YtbadcpaopdbgnaaProg.lean LOADS. Nothing in Lean hashes anything: it is a label: what it is worth is what the hold of that sum in a sandbox is worth. -/
noncomputable def Try.pinned : Pinned := { name := "ytbadcpaopdbgnaa", sum := "f05055c59dc648decf745fb71cb5abacdada6f3c0a08b407930ca26d0eab886b", checked := Try.checked }
namespace Rows
def none {H : Type} : Left H := { results := [], args := [] }

/-- 'thresherlaw2.SumSums': WHATEVER THE INPUT: true; the input reads as it did. -/
def sumSumsSpec : ChangeSpec := { name := "sumSums", fn := fun _ => fun
  | [d] => { results := [.lit (.bool true)], args := [d] }
  | _ => none }
def sumSumsRow : OpenClaim := { program := "ytbadcpaopdbgnaa", sum := "f05055c59dc648decf745fb71cb5abacdada6f3c0a08b407930ca26d0eab886b", func := "thresher/thresherlaw2.SumSums", spec := "sumSums", apart := false }
def SumSumsSaid : Prop := sumSumsRow.holds Try.pinned (OpenSpec.ofChange sumSumsSpec)

/-- ITS FALSE NEIGHBOUR: 'it returns false'. Refute it at one input. -/
def sumSumsWrong : ChangeSpec := { name := "sumSums", fn := fun _ => fun
  | [d] => { results := [.lit (.bool false)], args := [d] }
  | _ => none }
def SumSumsWrongFalsely : Prop := sumSumsRow.holds Try.pinned (OpenSpec.ofChange sumSumsWrong)

/-- 'thresherlaw2.SumTurns': WHATEVER THE INPUT: true; the input reads as it did. -/
def sumTurnsSpec : ChangeSpec := { name := "sumTurns", fn := fun _ => fun
  | [d] => { results := [.lit (.bool true)], args := [d] }
  | _ => none }
def sumTurnsRow : OpenClaim := { program := "ytbadcpaopdbgnaa", sum := "f05055c59dc648decf745fb71cb5abacdada6f3c0a08b407930ca26d0eab886b", func := "thresher/thresherlaw2.SumTurns", spec := "sumTurns", apart := false }
def SumTurnsSaid : Prop := sumTurnsRow.holds Try.pinned (OpenSpec.ofChange sumTurnsSpec)

/-- ITS FALSE NEIGHBOUR: 'it returns false'. Refute it at one input. -/
def sumTurnsWrong : ChangeSpec := { name := "sumTurns", fn := fun _ => fun
  | [d] => { results := [.lit (.bool false)], args := [d] }
  | _ => none }
def SumTurnsWrongFalsely : Prop := sumTurnsRow.holds Try.pinned (OpenSpec.ofChange sumTurnsWrong)

/-- 'thresherlaw20.StreamExact': WHATEVER THE INPUT: true; the input reads as it did. -/
def streamExactSpec : ChangeSpec := { name := "streamExact", fn := fun _ => fun
  | [d] => { results := [.lit (.bool true)], args := [d] }
  | _ => none }
def streamExactRow : OpenClaim := { program := "ytbadcpaopdbgnaa", sum := "f05055c59dc648decf745fb71cb5abacdada6f3c0a08b407930ca26d0eab886b", func := "thresher/thresherlaw20.StreamExact", spec := "streamExact", apart := false }
def StreamExactSaid : Prop := streamExactRow.holds Try.pinned (OpenSpec.ofChange streamExactSpec)

/-- ITS FALSE NEIGHBOUR: 'it returns false'. Refute it at one input. -/
def streamExactWrong : ChangeSpec := { name := "streamExact", fn := fun _ => fun
  | [d] => { results := [.lit (.bool false)], args := [d] }
  | _ => none }
def StreamExactWrongFalsely : Prop := streamExactRow.holds Try.pinned (OpenSpec.ofChange streamExactWrong)

/-- 'thresherlaw20.StreamWhole': WHATEVER THE INPUT: true; the input reads as it did. -/
def streamWholeSpec : ChangeSpec := { name := "streamWhole", fn := fun _ => fun
  | [d] => { results := [.lit (.bool true)], args := [d] }
  | _ => none }
def streamWholeRow : OpenClaim := { program := "ytbadcpaopdbgnaa", sum := "f05055c59dc648decf745fb71cb5abacdada6f3c0a08b407930ca26d0eab886b", func := "thresher/thresherlaw20.StreamWhole", spec := "streamWhole", apart := false }
def StreamWholeSaid : Prop := streamWholeRow.holds Try.pinned (OpenSpec.ofChange streamWholeSpec)

/-- ITS FALSE NEIGHBOUR: 'it returns false'. Refute it at one input. -/
def streamWholeWrong : ChangeSpec := { name := "streamWhole", fn := fun _ => fun
  | [d] => { results := [.lit (.bool false)], args := [d] }
  | _ => none }
def StreamWholeWrongFalsely : Prop := streamWholeRow.holds Try.pinned (OpenSpec.ofChange streamWholeWrong)

/-- 'thresherlaw20.StreamAcks': WHATEVER THE INPUT: true; the input reads as it did. -/
def streamAcksSpec : ChangeSpec := { name := "streamAcks", fn := fun _ => fun
  | [d] => { results := [.lit (.bool true)], args := [d] }
  | _ => none }
def streamAcksRow : OpenClaim := { program := "ytbadcpaopdbgnaa", sum := "f05055c59dc648decf745fb71cb5abacdada6f3c0a08b407930ca26d0eab886b", func := "thresher/thresherlaw20.StreamAcks", spec := "streamAcks", apart := false }
def StreamAcksSaid : Prop := streamAcksRow.holds Try.pinned (OpenSpec.ofChange streamAcksSpec)

/-- ITS FALSE NEIGHBOUR: 'it returns false'. Refute it at one input. -/
def streamAcksWrong : ChangeSpec := { name := "streamAcks", fn := fun _ => fun
  | [d] => { results := [.lit (.bool false)], args := [d] }
  | _ => none }
def StreamAcksWrongFalsely : Prop := streamAcksRow.holds Try.pinned (OpenSpec.ofChange streamAcksWrong)

/-- 'thresherlaw20.StreamChunks': WHATEVER THE INPUT: true; the input reads as it did. -/
def streamChunksSpec : ChangeSpec := { name := "streamChunks", fn := fun _ => fun
  | [d] => { results := [.lit (.bool true)], args := [d] }
  | _ => none }
def streamChunksRow : OpenClaim := { program := "ytbadcpaopdbgnaa", sum := "f05055c59dc648decf745fb71cb5abacdada6f3c0a08b407930ca26d0eab886b", func := "thresher/thresherlaw20.StreamChunks", spec := "streamChunks", apart := false }
def StreamChunksSaid : Prop := streamChunksRow.holds Try.pinned (OpenSpec.ofChange streamChunksSpec)

/-- ITS FALSE NEIGHBOUR: 'it returns false'. Refute it at one input. -/
def streamChunksWrong : ChangeSpec := { name := "streamChunks", fn := fun _ => fun
  | [d] => { results := [.lit (.bool false)], args := [d] }
  | _ => none }
def StreamChunksWrongFalsely : Prop := streamChunksRow.holds Try.pinned (OpenSpec.ofChange streamChunksWrong)

/-- 'thresherlaw20.StreamTakes': WHATEVER THE INPUT: true; the input reads as it did. -/
def streamTakesSpec : ChangeSpec := { name := "streamTakes", fn := fun _ => fun
  | [d] => { results := [.lit (.bool true)], args := [d] }
  | _ => none }
def streamTakesRow : OpenClaim := { program := "ytbadcpaopdbgnaa", sum := "f05055c59dc648decf745fb71cb5abacdada6f3c0a08b407930ca26d0eab886b", func := "thresher/thresherlaw20.StreamTakes", spec := "streamTakes", apart := false }
def StreamTakesSaid : Prop := streamTakesRow.holds Try.pinned (OpenSpec.ofChange streamTakesSpec)

/-- ITS FALSE NEIGHBOUR: 'it returns false'. Refute it at one input. -/
def streamTakesWrong : ChangeSpec := { name := "streamTakes", fn := fun _ => fun
  | [d] => { results := [.lit (.bool false)], args := [d] }
  | _ => none }
def StreamTakesWrongFalsely : Prop := streamTakesRow.holds Try.pinned (OpenSpec.ofChange streamTakesWrong)

/- THE SECOND FORM. 'bulk': how many values and letters a reading holds, each counted each time it is reached (what is shared counts as often as it is met; a slice's spare places count too). A statement '..UptoSaid' is the law's where the arguments, and the package variables that the reading takes, are together of bulk at most 1048576: NARROWER than '..Said'. Prove '..Said' where nothing that the law and all that it calls make is longer than what came in: it says more and counts as full. Else prove '..UptoSaid'. A law counts once. -/
mutual
def uptoBulk {H : Type} : DataW H → Nat
  | .lit (.string bytes) => bytes.length + 1
  | .lit _ => 1
  | .nil => 1
  | .ptr d => uptoBulk d + 1
  | .slice elems spare => uptoBulkAll elems + uptoBulkAll spare + 1
  | .agg parts => uptoBulkAll parts + 1
  | .iface _ d => uptoBulk d + 1
  | .map entries => uptoBulkEntries entries + 1
  | .held _ => 1
def uptoBulkAll {H : Type} : List (DataW H) → Nat
  | [] => 0
  | d :: r => uptoBulk d + uptoBulkAll r
def uptoBulkEntries {H : Type} : List (Lit × DataW H) → Nat
  | [] => 0
  | x :: r => uptoBulkEntry x + uptoBulkEntries r
def uptoBulkEntry {H : Type} : Lit × DataW H → Nat
  | (.string bytes, d) => bytes.length + uptoBulk d + 1
  | (_, d) => uptoBulk d + 1
 end
def uptoSmall : (H : Type) → List (DataW H) → Bool := fun _ ds => decide (uptoBulkAll ds ≤ 1048576)
def OpenSpec.upto (s : _root_.Go.ChangeSpec) : _root_.Go.OpenSpec := { _root_.Go.OpenSpec.ofChange s with cond := some uptoSmall }

/-- 'thresherlaw2.SumSums', WHERE WHAT IT READS IS OF BULK AT MOST 1048576: true; the input reads as it did. -/
def sumSumsUptoRow : OpenClaim := { program := "ytbadcpaopdbgnaa", sum := "f05055c59dc648decf745fb71cb5abacdada6f3c0a08b407930ca26d0eab886b", func := "thresher/thresherlaw2.SumSums", spec := "sumSums", apart := false, narrowed := true }
def SumSumsUptoSaid : Prop := sumSumsUptoRow.holds Try.pinned (OpenSpec.upto sumSumsSpec)

/-- 'thresherlaw2.SumTurns', WHERE WHAT IT READS IS OF BULK AT MOST 1048576: true; the input reads as it did. -/
def sumTurnsUptoRow : OpenClaim := { program := "ytbadcpaopdbgnaa", sum := "f05055c59dc648decf745fb71cb5abacdada6f3c0a08b407930ca26d0eab886b", func := "thresher/thresherlaw2.SumTurns", spec := "sumTurns", apart := false, narrowed := true }
def SumTurnsUptoSaid : Prop := sumTurnsUptoRow.holds Try.pinned (OpenSpec.upto sumTurnsSpec)

/-- 'thresherlaw20.StreamExact', WHERE WHAT IT READS IS OF BULK AT MOST 1048576: true; the input reads as it did. -/
def streamExactUptoRow : OpenClaim := { program := "ytbadcpaopdbgnaa", sum := "f05055c59dc648decf745fb71cb5abacdada6f3c0a08b407930ca26d0eab886b", func := "thresher/thresherlaw20.StreamExact", spec := "streamExact", apart := false, narrowed := true }
def StreamExactUptoSaid : Prop := streamExactUptoRow.holds Try.pinned (OpenSpec.upto streamExactSpec)

/-- 'thresherlaw20.StreamWhole', WHERE WHAT IT READS IS OF BULK AT MOST 1048576: true; the input reads as it did. -/
def streamWholeUptoRow : OpenClaim := { program := "ytbadcpaopdbgnaa", sum := "f05055c59dc648decf745fb71cb5abacdada6f3c0a08b407930ca26d0eab886b", func := "thresher/thresherlaw20.StreamWhole", spec := "streamWhole", apart := false, narrowed := true }
def StreamWholeUptoSaid : Prop := streamWholeUptoRow.holds Try.pinned (OpenSpec.upto streamWholeSpec)

/-- 'thresherlaw20.StreamAcks', WHERE WHAT IT READS IS OF BULK AT MOST 1048576: true; the input reads as it did. -/
def streamAcksUptoRow : OpenClaim := { program := "ytbadcpaopdbgnaa", sum := "f05055c59dc648decf745fb71cb5abacdada6f3c0a08b407930ca26d0eab886b", func := "thresher/thresherlaw20.StreamAcks", spec := "streamAcks", apart := false, narrowed := true }
def StreamAcksUptoSaid : Prop := streamAcksUptoRow.holds Try.pinned (OpenSpec.upto streamAcksSpec)

/-- 'thresherlaw20.StreamChunks', WHERE WHAT IT READS IS OF BULK AT MOST 1048576: true; the input reads as it did. -/
def streamChunksUptoRow : OpenClaim := { program := "ytbadcpaopdbgnaa", sum := "f05055c59dc648decf745fb71cb5abacdada6f3c0a08b407930ca26d0eab886b", func := "thresher/thresherlaw20.StreamChunks", spec := "streamChunks", apart := false, narrowed := true }
def StreamChunksUptoSaid : Prop := streamChunksUptoRow.holds Try.pinned (OpenSpec.upto streamChunksSpec)

/-- 'thresherlaw20.StreamTakes', WHERE WHAT IT READS IS OF BULK AT MOST 1048576: true; the input reads as it did. -/
def streamTakesUptoRow : OpenClaim := { program := "ytbadcpaopdbgnaa", sum := "f05055c59dc648decf745fb71cb5abacdada6f3c0a08b407930ca26d0eab886b", func := "thresher/thresherlaw20.StreamTakes", spec := "streamTakes", apart := false, narrowed := true }
def StreamTakesUptoSaid : Prop := streamTakesUptoRow.holds Try.pinned (OpenSpec.upto streamTakesSpec)

end Rows
end Go.Proofs.Ytbadcpaopdbgnaa
