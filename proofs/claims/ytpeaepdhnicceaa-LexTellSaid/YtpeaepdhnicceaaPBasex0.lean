/- Printed by a program of this session (wip/tools/myprint.py, which runs the kit's own printer) over contracts proved by hand: functions and their walks, and the row of a law: for every input it returns true. No conditions. -/
import Derived.Test.YtpeaepdhnicceaaProg
import Derived.Below
import Derived.Deep.Draws
import Derived.Deep.AppendLies
import Derived.Maps.AppendAt
import Derived.OwnWalk
import Derived.Laws.BytesArg
import Derived.Laws.MakeOwn
import Derived.Laws.OwnMore
import Derived.Deep.OwnRows
import Derived.Tactics
import Derived.Lib.ConvBytes
import Derived.Laws.Slices
import Derived.WalkKit
import Derived.KernelRfl
import Derived.RowKit3
import Derived.Deep.LoopGhost
import Derived.Deep.QuietTactic
import Derived.BigQuiet
import Derived.WideLaws
import Derived.Deep.DeepCutAuto
import Derived.Deep.CutBlock
import Derived.Deep.RegionHeld3
import Derived.Laws.Rows
import Derived.Lib.AppendStr
import Derived.ArgAppend
import Derived.Laws.IdiomCopy
import Derived.OrdersHeld
import Derived.Laws.BitsLemmas
import Derived.RowKit
import Derived.Test.YtpeaepdhnicceaaIx
import Derived.Test.YtpeaepdhnicceaaWWords
import Derived.Test.YtpeaepdhnicceaaWLast
import Derived.Test.YtpeaepdhnicceaaWTab
import Derived.Test.YtpeaepdhnicceaaWFour
import Derived.Test.YtpeaepdhnicceaaWQPut
import Derived.Test.YtpeaepdhnicceaaWApart
import Derived.Test.YtpeaepdhnicceaaWArr
import Derived.Test.YtpeaepdhnicceaaWZeros
import Derived.Test.YtpeaepdhnicceaaWFoot
import Derived.Test.YtpeaepdhnicceaaWKept
import Derived.Test.YtpeaepdhnicceaaWShare
import Derived.Test.YtpeaepdhnicceaaWN
import Derived.Test.YtpeaepdhnicceaaWFootNe
import Derived.Test.YtpeaepdhnicceaaWAt
import Derived.Test.YtpeaepdhnicceaaWEqStruct
import Derived.Test.YtpeaepdhnicceaaWRepsOne
import Derived.Test.YtpeaepdhnicceaaWInv
import Derived.Test.YtpeaepdhnicceaaWInvWords
import Derived.Test.YtpeaepdhnicceaaWGuard
import Derived.Test.YtpeaepdhnicceaaWNEv
import Derived.Test.YtpeaepdhnicceaaWMore
namespace Go.Proofs.Ytpeaepdhnicceaa.PBase
open Go.RowKit Go.Proofs.Ytpeaepdhnicceaa.Ix Go.Proofs.YtpeaepdhnicceaaW.PrintWords Go.Proofs.YtpeaepdhnicceaaW.PrintLast Go.Proofs.YtpeaepdhnicceaaW.PrintMore
attribute [local go_sem] max2_int min2_int max_two min_two max_three min_three max_four min_four   -- for this text's walks alone
set_option linter.unusedVariables false
set_option linter.unusedSimpArgs false



def errW : Option Int → Value
  | none => .nilIface
  | some c => .iface 0 (.int .i64 c)
theorem errW_none : errW none = .nilIface := rfl
theorem errW_some (c : Int) : errW (some c) = .iface 0 (.int .i64 c) := rfl

-- the values' own types

end Go.Proofs.Ytpeaepdhnicceaa.PBase
