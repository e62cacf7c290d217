/- Printed by a program of this session (wip/tools/myprint.py, which runs the kit's own printer) over contracts proved by hand: functions and their walks, and the row of a law: for every input it returns true. No conditions. -/
import Derived.Test.YtafpedgmfkaifaaProg
import Derived.Below
import Derived.Deep.Draws
import Derived.Deep.AppendLies
import Derived.Maps.AppendAt
import Derived.OwnWalk
import Derived.Laws.BytesArg
import Derived.Laws.MakeOwn
import Derived.Laws.OwnMore
import Derived.Deep.OwnRows
import Derived.Tactics
import Derived.Lib.ConvBytes
import Derived.Laws.Slices
import Derived.WalkKit
import Derived.KernelRfl
import Derived.RowKit3
import Derived.Deep.LoopGhost
import Derived.Deep.QuietTactic
import Derived.BigQuiet
import Derived.WideLaws
import Derived.Deep.DeepCutAuto
import Derived.Deep.CutBlock
import Derived.Deep.RegionHeld3
import Derived.Laws.Rows
import Derived.Lib.AppendStr
import Derived.ArgAppend
import Derived.Laws.IdiomCopy
import Derived.OrdersHeld
import Derived.Laws.BitsLemmas
import Derived.RowKit
import Derived.Test.YtafpedgmfkaifaaPBasex5
import Derived.Test.YtafpedgmfkaifaaGiven
import Derived.Test.YtafpedgmfkaifaaWWords
import Derived.Test.YtafpedgmfkaifaaWLast
import Derived.Test.YtafpedgmfkaifaaWTab
import Derived.Test.YtafpedgmfkaifaaWFour
import Derived.Test.YtafpedgmfkaifaaWQPut
import Derived.Test.YtafpedgmfkaifaaWApart
import Derived.Test.YtafpedgmfkaifaaWArr
import Derived.Test.YtafpedgmfkaifaaWZeros
import Derived.Test.YtafpedgmfkaifaaWFoot
import Derived.Test.YtafpedgmfkaifaaWKept
import Derived.Test.YtafpedgmfkaifaaWShare
import Derived.Test.YtafpedgmfkaifaaWN
import Derived.Test.YtafpedgmfkaifaaWFootNe
import Derived.Test.YtafpedgmfkaifaaWAt
import Derived.Test.YtafpedgmfkaifaaWEqStruct
import Derived.Test.YtafpedgmfkaifaaWRepsOne
import Derived.Test.YtafpedgmfkaifaaWInv
import Derived.Test.YtafpedgmfkaifaaWInvWords
import Derived.Test.YtafpedgmfkaifaaWGuard
import Derived.Test.YtafpedgmfkaifaaWNEv
import Derived.Test.YtafpedgmfkaifaaWMore
namespace Go.Proofs.Ytafpedgmfkaifaa.PAll
open Go.RowKit Go.Proofs.Ytafpedgmfkaifaa.PBase Go.Proofs.Ytafpedgmfkaifaa.Given Go.Proofs.YtafpedgmfkaifaaW.PrintWords Go.Proofs.YtafpedgmfkaifaaW.PrintLast Go.Proofs.YtafpedgmfkaifaaW.PrintMore
attribute [local go_sem] max2_int min2_int max_two min_two max_three min_three max_four min_four   -- for this text's walks alone
set_option linter.unusedVariables false
set_option linter.unusedSimpArgs false



def errW : Option Int → Value
  | none => .nilIface
  | some c => .iface 0 (.int .i64 c)
theorem errW_none : errW none = .nilIface := rfl
theorem errW_some (c : Int) : errW (some c) = .iface 0 (.int .i64 c) := rfl

theorem info30 : (Try.prog.info? 30).map (fun i => (i.zero, i.size, i.bytes)) = some (some (.agg #[(.int .i64 0), (.int .i64 0)]), 2, 16) := by kernel_rfl
end Go.Proofs.Ytafpedgmfkaifaa.PAll
