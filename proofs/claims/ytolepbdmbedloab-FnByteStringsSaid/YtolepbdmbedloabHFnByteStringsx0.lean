/- The functions that FnByteStrings reaches: each Go function with a Lean function of the same answers; conditions: none beyond what each theorem states. Out of the lines of print.sh, mended. -/
import Derived.Test.YtolepbdmbedloabProg
import Derived.Below
import Derived.Deep.Draws
import Derived.Deep.AppendLies
import Derived.Maps.AppendAt
import Derived.OwnWalk
import Derived.Laws.BytesArg
import Derived.Laws.MakeOwn
import Derived.Laws.OwnMore
import Derived.Deep.OwnRows
import Derived.Tactics
import Derived.Lib.ConvBytes
import Derived.Laws.Slices
import Derived.WalkKit
import Derived.KernelRfl
import Derived.RowKit3
import Derived.Deep.LoopGhost
import Derived.Deep.QuietTactic
import Derived.BigQuiet
import Derived.WideLaws
import Derived.Deep.DeepCutAuto
import Derived.Deep.CutBlock
import Derived.Deep.RegionHeld3
import Derived.Laws.Rows
import Derived.Lib.AppendStr
import Derived.ArgAppend
import Derived.Laws.IdiomCopy
import Derived.OrdersHeld
import Derived.Laws.BitsLemmas
import Derived.RowKit
import Derived.Test.YtolepbdmbedloabWWords
import Derived.Test.YtolepbdmbedloabWLast
import Derived.Test.YtolepbdmbedloabWTab
import Derived.Test.YtolepbdmbedloabWFour
import Derived.Test.YtolepbdmbedloabWQPut
import Derived.Test.YtolepbdmbedloabWApart
import Derived.Test.YtolepbdmbedloabWArr
import Derived.Test.YtolepbdmbedloabWZeros
import Derived.Test.YtolepbdmbedloabWFoot
import Derived.Test.YtolepbdmbedloabWKept
import Derived.Test.YtolepbdmbedloabWShare
import Derived.Test.YtolepbdmbedloabWN
import Derived.Test.YtolepbdmbedloabWFootNe
import Derived.Test.YtolepbdmbedloabWAt
import Derived.Test.YtolepbdmbedloabWEqStruct
import Derived.Test.YtolepbdmbedloabWRepsOne
import Derived.Test.YtolepbdmbedloabWInv
import Derived.Test.YtolepbdmbedloabWInvWords
import Derived.Test.YtolepbdmbedloabWGuard
import Derived.Test.YtolepbdmbedloabWNEv
import Derived.Test.YtolepbdmbedloabWMore
namespace Go.Proofs.Ytolepbdmbedloab.PFnByteStrings
open Go.RowKit Go.Proofs.YtolepbdmbedloabW.PrintWords Go.Proofs.YtolepbdmbedloabW.PrintLast Go.Proofs.YtolepbdmbedloabW.PrintMore
attribute [local go_sem] max2_int min2_int max_two min_two max_three min_three max_four min_four   -- for this text's walks alone
set_option linter.unusedVariables false
set_option linter.unusedSimpArgs false



def errW : Option Int → Value
  | none => .nilIface
  | some c => .iface 0 (.int .i64 c)
theorem errW_none : errW none = .nilIface := rfl
theorem errW_some (c : Int) : errW (some c) = .iface 0 (.int .i64 c) := rfl

theorem info3 : (Try.prog.info? 3).map (fun i => (i.zero, i.size, i.bytes)) = some (some (.int .i64 0), 1, 8) := by kernel_rfl
theorem info5 : (Try.prog.info? 5).map (fun i => (i.zero, i.size, i.bytes)) = some (some (.int .u8 0), 1, 1) := by kernel_rfl
-- the values' own types

end Go.Proofs.Ytolepbdmbedloab.PFnByteStrings
