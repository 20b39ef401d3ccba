-- PRINTED BY print.sh 35421559b90ae4d0a3588c463048766b98c2df88dd9212a6774a882060cdf62d: not written by this session
import Derived.Test.YtolepbdmbedloaaProg
import Derived.Below
import Derived.Deep.Draws
import Derived.Deep.AppendLies
import Derived.Maps.AppendAt
import Derived.OwnWalk
import Derived.Laws.BytesArg
import Derived.Laws.MakeOwn
import Derived.Laws.OwnMore
import Derived.Deep.OwnRows
import Derived.Tactics
import Derived.Lib.ConvBytes
import Derived.Laws.Slices
import Derived.WalkKit
import Derived.KernelRfl
import Derived.RowKit3
import Derived.Deep.LoopGhost
import Derived.Deep.QuietTactic
import Derived.BigQuiet
import Derived.WideLaws
import Derived.Deep.DeepCutAuto
import Derived.Deep.CutBlock
import Derived.Deep.RegionHeld3
import Derived.Laws.Rows
import Derived.Lib.AppendStr
import Derived.ArgAppend
import Derived.Laws.IdiomCopy
import Derived.OrdersHeld
import Derived.Laws.BitsLemmas
import Derived.RowKit
import Derived.Test.YtolepbdmbedloaaWWords
import Derived.Test.YtolepbdmbedloaaWLast
import Derived.Test.YtolepbdmbedloaaWTab
import Derived.Test.YtolepbdmbedloaaWFour
import Derived.Test.YtolepbdmbedloaaWQPut
import Derived.Test.YtolepbdmbedloaaWApart
import Derived.Test.YtolepbdmbedloaaWArr
import Derived.Test.YtolepbdmbedloaaWZeros
import Derived.Test.YtolepbdmbedloaaWFoot
import Derived.Test.YtolepbdmbedloaaWKept
import Derived.Test.YtolepbdmbedloaaWShare
import Derived.Test.YtolepbdmbedloaaWN
import Derived.Test.YtolepbdmbedloaaWFootNe
import Derived.Test.YtolepbdmbedloaaWAt
import Derived.Test.YtolepbdmbedloaaWEqStruct
import Derived.Test.YtolepbdmbedloaaWRepsOne
import Derived.Test.YtolepbdmbedloaaWInv
import Derived.Test.YtolepbdmbedloaaWInvWords
import Derived.Test.YtolepbdmbedloaaWGuard
import Derived.Test.YtolepbdmbedloaaWNEv
import Derived.Test.YtolepbdmbedloaaWMore
namespace Go.Proofs.Ytolepbdmbedloaa.PFnExactReadBytes
open Go.RowKit Go.Proofs.YtolepbdmbedloaaW.PrintWords Go.Proofs.YtolepbdmbedloaaW.PrintLast Go.Proofs.YtolepbdmbedloaaW.PrintMore
attribute [local go_sem] max2_int min2_int max_two min_two max_three min_three max_four min_four   -- for this text's walks alone
set_option linter.unusedVariables false
set_option linter.unusedSimpArgs false



def errW : Option Int → Value
  | none => .nilIface
  | some c => .iface 0 (.int .i64 c)
theorem errW_none : errW none = .nilIface := rfl
theorem errW_some (c : Int) : errW (some c) = .iface 0 (.int .i64 c) := rfl

theorem info5 : (Try.prog.info? 5).map (fun i => (i.zero, i.size, i.bytes)) = some (some (.int .u8 0), 1, 1) := by kernel_rfl
-- the values' own types

end Go.Proofs.Ytolepbdmbedloaa.PFnExactReadBytes
