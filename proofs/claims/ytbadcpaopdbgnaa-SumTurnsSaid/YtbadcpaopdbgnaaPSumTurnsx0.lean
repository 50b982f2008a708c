-- Written by printx.py, a program of this workplace over the kit's printer; Lean checks it.
import Derived.Test.YtbadcpaopdbgnaaProg
import Derived.Below
import Derived.Deep.Draws
import Derived.Deep.AppendLies
import Derived.Maps.AppendAt
import Derived.OwnWalk
import Derived.Laws.BytesArg
import Derived.Laws.MakeOwn
import Derived.Laws.OwnMore
import Derived.Deep.OwnRows
import Derived.Tactics
import Derived.Lib.ConvBytes
import Derived.Laws.Slices
import Derived.WalkKit
import Derived.KernelRfl
import Derived.RowKit3
import Derived.Deep.LoopGhost
import Derived.Deep.QuietTactic
import Derived.BigQuiet
import Derived.WideLaws
import Derived.Deep.DeepCutAuto
import Derived.Deep.CutBlock
import Derived.Deep.RegionHeld3
import Derived.Laws.Rows
import Derived.Lib.AppendStr
import Derived.ArgAppend
import Derived.Laws.IdiomCopy
import Derived.OrdersHeld
import Derived.Laws.BitsLemmas
import Derived.RowKit
import Derived.Test.YtbadcpaopdbgnaaWWords
import Derived.Test.YtbadcpaopdbgnaaWLast
import Derived.Test.YtbadcpaopdbgnaaWTab
import Derived.Test.YtbadcpaopdbgnaaWFour
import Derived.Test.YtbadcpaopdbgnaaWQPut
import Derived.Test.YtbadcpaopdbgnaaWApart
import Derived.Test.YtbadcpaopdbgnaaWArr
import Derived.Test.YtbadcpaopdbgnaaWZeros
import Derived.Test.YtbadcpaopdbgnaaWFoot
import Derived.Test.YtbadcpaopdbgnaaWKept
import Derived.Test.YtbadcpaopdbgnaaWShare
import Derived.Test.YtbadcpaopdbgnaaWN
import Derived.Test.YtbadcpaopdbgnaaWFootNe
import Derived.Test.YtbadcpaopdbgnaaWAt
import Derived.Test.YtbadcpaopdbgnaaWEqStruct
import Derived.Test.YtbadcpaopdbgnaaWRepsOne
import Derived.Test.YtbadcpaopdbgnaaWInv
import Derived.Test.YtbadcpaopdbgnaaWInvWords
import Derived.Test.YtbadcpaopdbgnaaWGuard
import Derived.Test.YtbadcpaopdbgnaaWNEv
import Derived.Test.YtbadcpaopdbgnaaWMore
namespace Go.Proofs.Ytbadcpaopdbgnaa.PSumTurns
open Go.RowKit Go.Proofs.YtbadcpaopdbgnaaW.PrintWords Go.Proofs.YtbadcpaopdbgnaaW.PrintLast Go.Proofs.YtbadcpaopdbgnaaW.PrintMore
attribute [local go_sem] max2_int min2_int max_two min_two max_three min_three max_four min_four   -- for this text's walks alone
set_option linter.unusedVariables false
set_option linter.unusedSimpArgs false



def errW : Option Int → Value
  | none => .nilIface
  | some c => .iface 0 (.int .i64 c)
theorem errW_none : errW none = .nilIface := rfl
theorem errW_some (c : Int) : errW (some c) = .iface 0 (.int .i64 c) := rfl

-- the values' own types

end Go.Proofs.Ytbadcpaopdbgnaa.PSumTurns
