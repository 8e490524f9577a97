/- The walks of some functions of the program, printed by a program of this session out of the translation: conditions as each theorem states them. -/
import Derived.Test.YtjhaaaljlpcnaaaDoorProg
import Derived.Below
import Derived.Deep.Draws
import Derived.Deep.AppendLies
import Derived.Maps.AppendAt
import Derived.OwnWalk
import Derived.Laws.BytesArg
import Derived.Laws.MakeOwn
import Derived.Laws.OwnMore
import Derived.Deep.OwnRows
import Derived.Tactics
import Derived.Lib.ConvBytes
import Derived.Laws.Slices
import Derived.WalkKit
import Derived.KernelRfl
import Derived.RowKit3
import Derived.Deep.LoopGhost
import Derived.Deep.QuietTactic
import Derived.BigQuiet
import Derived.WideLaws
import Derived.Deep.DeepCutAuto
import Derived.Deep.CutBlock
import Derived.Deep.RegionHeld3
import Derived.Laws.Rows
import Derived.Lib.AppendStr
import Derived.ArgAppend
import Derived.Laws.IdiomCopy
import Derived.OrdersHeld
import Derived.Laws.BitsLemmas
import Derived.RowKit
import Derived.Test.YtjhaaaljlpcnaaaDoorWWords
import Derived.Test.YtjhaaaljlpcnaaaDoorWLast
import Derived.Test.YtjhaaaljlpcnaaaDoorWTab
import Derived.Test.YtjhaaaljlpcnaaaDoorWFour
import Derived.Test.YtjhaaaljlpcnaaaDoorWQPut
import Derived.Test.YtjhaaaljlpcnaaaDoorWApart
import Derived.Test.YtjhaaaljlpcnaaaDoorWArr
import Derived.Test.YtjhaaaljlpcnaaaDoorWZeros
import Derived.Test.YtjhaaaljlpcnaaaDoorWFoot
import Derived.Test.YtjhaaaljlpcnaaaDoorWKept
import Derived.Test.YtjhaaaljlpcnaaaDoorWShare
import Derived.Test.YtjhaaaljlpcnaaaDoorWN
import Derived.Test.YtjhaaaljlpcnaaaDoorWFootNe
import Derived.Test.YtjhaaaljlpcnaaaDoorWAt
import Derived.Test.YtjhaaaljlpcnaaaDoorWEqStruct
import Derived.Test.YtjhaaaljlpcnaaaDoorWRepsOne
import Derived.Test.YtjhaaaljlpcnaaaDoorWInv
import Derived.Test.YtjhaaaljlpcnaaaDoorWInvWords
import Derived.Test.YtjhaaaljlpcnaaaDoorWGuard
import Derived.Test.YtjhaaaljlpcnaaaDoorWNEv
import Derived.Test.YtjhaaaljlpcnaaaDoorWMore
import Derived.Test.YtjhaaaljlpcnaaaDoorX
namespace Go.Proofs.YtjhaaaljlpcnaaaDoor.A
open Go.RowKit Go.Proofs.YtjhaaaljlpcnaaaDoorW.PrintWords Go.Proofs.YtjhaaaljlpcnaaaDoorW.PrintLast Go.Proofs.YtjhaaaljlpcnaaaDoorW.PrintMore Go.Proofs.YtjhaaaljlpcnaaaDoor.X
attribute [local go_sem] max2_int min2_int max_two min_two max_three min_three max_four min_four   -- for this text's walks alone
set_option linter.unusedVariables false
set_option linter.unusedSimpArgs false



def errW : Option Int → Value
  | none => .nilIface
  | some c => .iface 0 (.int .i64 c)
theorem errW_none : errW none = .nilIface := rfl
theorem errW_some (c : Int) : errW (some c) = .iface 0 (.int .i64 c) := rfl

theorem info3 : (Tryd.prog.info? 3).map (fun i => (i.zero, i.size, i.bytes)) = some (some (.int .i64 0), 1, 8) := by kernel_rfl
theorem info5 : (Tryd.prog.info? 5).map (fun i => (i.zero, i.size, i.bytes)) = some (some (.int .u8 0), 1, 1) := by kernel_rfl
theorem info9 : (Tryd.prog.info? 9).map (fun i => (i.zero, i.size, i.bytes)) = some (some (.string ⟨#[]⟩), 1, 16) := by kernel_rfl
-- the values' own types

end Go.Proofs.YtjhaaaljlpcnaaaDoor.A
