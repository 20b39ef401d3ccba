/- The functions that FnKeyedHash reaches: each Go function with a Lean function of the same answers; conditions: none beyond what each theorem states. Out of the lines of print.sh, mended. -/
import Derived.Test.YtolepbdmbedloacProg
import Derived.Below
import Derived.Deep.Draws
import Derived.Deep.AppendLies
import Derived.Maps.AppendAt
import Derived.OwnWalk
import Derived.Laws.BytesArg
import Derived.Laws.MakeOwn
import Derived.Laws.OwnMore
import Derived.Deep.OwnRows
import Derived.Tactics
import Derived.Lib.ConvBytes
import Derived.Laws.Slices
import Derived.WalkKit
import Derived.KernelRfl
import Derived.RowKit3
import Derived.Deep.LoopGhost
import Derived.Deep.QuietTactic
import Derived.BigQuiet
import Derived.WideLaws
import Derived.Deep.DeepCutAuto
import Derived.Deep.CutBlock
import Derived.Deep.RegionHeld3
import Derived.Laws.Rows
import Derived.Lib.AppendStr
import Derived.ArgAppend
import Derived.Laws.IdiomCopy
import Derived.OrdersHeld
import Derived.Laws.BitsLemmas
import Derived.RowKit
import Derived.Test.YtolepbdmbedloacWWords
import Derived.Test.YtolepbdmbedloacWLast
import Derived.Test.YtolepbdmbedloacWTab
import Derived.Test.YtolepbdmbedloacWFour
import Derived.Test.YtolepbdmbedloacWQPut
import Derived.Test.YtolepbdmbedloacWApart
import Derived.Test.YtolepbdmbedloacWArr
import Derived.Test.YtolepbdmbedloacWZeros
import Derived.Test.YtolepbdmbedloacWFoot
import Derived.Test.YtolepbdmbedloacWKept
import Derived.Test.YtolepbdmbedloacWShare
import Derived.Test.YtolepbdmbedloacWN
import Derived.Test.YtolepbdmbedloacWFootNe
import Derived.Test.YtolepbdmbedloacWAt
import Derived.Test.YtolepbdmbedloacWEqStruct
import Derived.Test.YtolepbdmbedloacWRepsOne
import Derived.Test.YtolepbdmbedloacWInv
import Derived.Test.YtolepbdmbedloacWInvWords
import Derived.Test.YtolepbdmbedloacWGuard
import Derived.Test.YtolepbdmbedloacWNEv
import Derived.Test.YtolepbdmbedloacWMore
namespace Go.Proofs.Ytolepbdmbedloac.PFnKeyedHash
open Go.RowKit Go.Proofs.YtolepbdmbedloacW.PrintWords Go.Proofs.YtolepbdmbedloacW.PrintLast Go.Proofs.YtolepbdmbedloacW.PrintMore
attribute [local go_sem] max2_int min2_int max_two min_two max_three min_three max_four min_four   -- for this text's walks alone
set_option linter.unusedVariables false
set_option linter.unusedSimpArgs false



def errW : Option Int → Value
  | none => .nilIface
  | some c => .iface 0 (.int .i64 c)
theorem errW_none : errW none = .nilIface := rfl
theorem errW_some (c : Int) : errW (some c) = .iface 0 (.int .i64 c) := rfl

theorem info3 : (Try.prog.info? 3).map (fun i => (i.zero, i.size, i.bytes)) = some (some (.int .i64 0), 1, 8) := by kernel_rfl
theorem info9 : (Try.prog.info? 9).map (fun i => (i.zero, i.size, i.bytes)) = some (some (.string ⟨#[]⟩), 1, 16) := by kernel_rfl
-- the values' own types

end Go.Proofs.Ytolepbdmbedloac.PFnKeyedHash
