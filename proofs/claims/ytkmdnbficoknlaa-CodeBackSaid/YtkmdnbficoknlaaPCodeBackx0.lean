-- PRINTED BY print.sh 35421559b90ae4d0a3588c463048766b98c2df88dd9212a6774a882060cdf62d: not written by this session
import Derived.Test.YtkmdnbficoknlaaProg
import Derived.Below
import Derived.Deep.Draws
import Derived.Deep.AppendLies
import Derived.Maps.AppendAt
import Derived.OwnWalk
import Derived.Laws.BytesArg
import Derived.Laws.MakeOwn
import Derived.Laws.OwnMore
import Derived.Deep.OwnRows
import Derived.Tactics
import Derived.Lib.ConvBytes
import Derived.Laws.Slices
import Derived.WalkKit
import Derived.KernelRfl
import Derived.RowKit3
import Derived.Deep.LoopGhost
import Derived.Deep.QuietTactic
import Derived.BigQuiet
import Derived.WideLaws
import Derived.Deep.DeepCutAuto
import Derived.Deep.CutBlock
import Derived.Deep.RegionHeld3
import Derived.Laws.Rows
import Derived.Lib.AppendStr
import Derived.ArgAppend
import Derived.Laws.IdiomCopy
import Derived.OrdersHeld
import Derived.Laws.BitsLemmas
import Derived.RowKit
import Derived.Test.YtkmdnbficoknlaaWWords
import Derived.Test.YtkmdnbficoknlaaWLast
import Derived.Test.YtkmdnbficoknlaaWTab
import Derived.Test.YtkmdnbficoknlaaWFour
import Derived.Test.YtkmdnbficoknlaaWQPut
import Derived.Test.YtkmdnbficoknlaaWApart
import Derived.Test.YtkmdnbficoknlaaWArr
import Derived.Test.YtkmdnbficoknlaaWZeros
import Derived.Test.YtkmdnbficoknlaaWFoot
import Derived.Test.YtkmdnbficoknlaaWKept
import Derived.Test.YtkmdnbficoknlaaWShare
import Derived.Test.YtkmdnbficoknlaaWN
import Derived.Test.YtkmdnbficoknlaaWFootNe
import Derived.Test.YtkmdnbficoknlaaWAt
import Derived.Test.YtkmdnbficoknlaaWEqStruct
import Derived.Test.YtkmdnbficoknlaaWRepsOne
import Derived.Test.YtkmdnbficoknlaaWInv
import Derived.Test.YtkmdnbficoknlaaWInvWords
import Derived.Test.YtkmdnbficoknlaaWGuard
import Derived.Test.YtkmdnbficoknlaaWNEv
import Derived.Test.YtkmdnbficoknlaaWMore
namespace Go.Proofs.Ytkmdnbficoknlaa.PCodeBack
open Go.RowKit Go.Proofs.YtkmdnbficoknlaaW.PrintWords Go.Proofs.YtkmdnbficoknlaaW.PrintLast Go.Proofs.YtkmdnbficoknlaaW.PrintMore
attribute [local go_sem] max2_int min2_int max_two min_two max_three min_three max_four min_four   -- for this text's walks alone
set_option linter.unusedVariables false
set_option linter.unusedSimpArgs false



def errW : Option Int → Value
  | none => .nilIface
  | some c => .iface 0 (.int .i64 c)
theorem errW_none : errW none = .nilIface := rfl
theorem errW_some (c : Int) : errW (some c) = .iface 0 (.int .i64 c) := rfl

theorem info5 : (Try.prog.info? 5).map (fun i => (i.zero, i.size, i.bytes)) = some (some (.int .u8 0), 1, 1) := by kernel_rfl
-- the values' own types

end Go.Proofs.Ytkmdnbficoknlaa.PCodeBack
