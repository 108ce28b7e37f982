/- What the functions of the package sums and of its reference return, as Lean functions, and the walks that show it. Written by a program of this session. -/
import Derived.Test.YtgjcahmddhladaaProg
import Derived.Test.YtgjcahmddhladaaNumber
import Derived.Below
import Derived.Deep.Draws
import Derived.Deep.AppendLies
import Derived.Maps.AppendAt
import Derived.OwnWalk
import Derived.Laws.BytesArg
import Derived.Laws.MakeOwn
import Derived.Laws.OwnMore
import Derived.Deep.OwnRows
import Derived.Tactics
import Derived.Lib.ConvBytes
import Derived.Laws.Slices
import Derived.WalkKit
import Derived.KernelRfl
import Derived.RowKit3
import Derived.Deep.LoopGhost
import Derived.Deep.QuietTactic
import Derived.BigQuiet
import Derived.WideLaws
import Derived.Deep.DeepCutAuto
import Derived.Deep.CutBlock
import Derived.Deep.RegionHeld3
import Derived.Laws.Rows
import Derived.Lib.AppendStr
import Derived.ArgAppend
import Derived.Laws.IdiomCopy
import Derived.OrdersHeld
import Derived.Laws.BitsLemmas
import Derived.RowKit
import Derived.Test.YtgjcahmddhladaaWWords
import Derived.Test.YtgjcahmddhladaaWLast
import Derived.Test.YtgjcahmddhladaaWTab
import Derived.Test.YtgjcahmddhladaaWFour
import Derived.Test.YtgjcahmddhladaaWQPut
import Derived.Test.YtgjcahmddhladaaWApart
import Derived.Test.YtgjcahmddhladaaWArr
import Derived.Test.YtgjcahmddhladaaWZeros
import Derived.Test.YtgjcahmddhladaaWFoot
import Derived.Test.YtgjcahmddhladaaWKept
import Derived.Test.YtgjcahmddhladaaWShare
import Derived.Test.YtgjcahmddhladaaWN
import Derived.Test.YtgjcahmddhladaaWFootNe
import Derived.Test.YtgjcahmddhladaaWAt
import Derived.Test.YtgjcahmddhladaaWEqStruct
import Derived.Test.YtgjcahmddhladaaWRepsOne
import Derived.Test.YtgjcahmddhladaaWInv
import Derived.Test.YtgjcahmddhladaaWInvWords
import Derived.Test.YtgjcahmddhladaaWGuard
import Derived.Test.YtgjcahmddhladaaWNEv
import Derived.Test.YtgjcahmddhladaaWMore
namespace Go.Proofs.Ytgjcahmddhladaa.PAll
open Go.RowKit Go.Proofs.YtgjcahmddhladaaW.PrintWords Go.Proofs.YtgjcahmddhladaaW.PrintLast Go.Proofs.YtgjcahmddhladaaW.PrintMore
attribute [local go_sem] max2_int min2_int max_two min_two max_three min_three max_four min_four   -- for this text's walks alone
set_option linter.unusedVariables false
set_option linter.unusedSimpArgs false



def errW : Option Int → Value
  | none => .nilIface
  | some c => .iface 0 (.int .i64 c)
theorem errW_none : errW none = .nilIface := rfl
theorem errW_some (c : Int) : errW (some c) = .iface 0 (.int .i64 c) := rfl

theorem info5 : (Try.prog.info? 5).map (fun i => (i.zero, i.size, i.bytes)) = some (some (.int .u8 0), 1, 1) := by kernel_rfl
-- the values' own types

end Go.Proofs.Ytgjcahmddhladaa.PAll
