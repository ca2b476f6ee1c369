-- PRINTED BY print.sh 35421559b90ae4d0a3588c463048766b98c2df88dd9212a6774a882060cdf62d: not written by this session
import Derived.Test.YthfppmgnemmckaaGreatDoorProg
import Derived.Below
import Derived.Deep.Draws
import Derived.Deep.AppendLies
import Derived.Maps.AppendAt
import Derived.OwnWalk
import Derived.Laws.BytesArg
import Derived.Laws.MakeOwn
import Derived.Laws.OwnMore
import Derived.Deep.OwnRows
import Derived.Tactics
import Derived.Lib.ConvBytes
import Derived.Laws.Slices
import Derived.WalkKit
import Derived.KernelRfl
import Derived.RowKit3
import Derived.Deep.LoopGhost
import Derived.Deep.QuietTactic
import Derived.BigQuiet
import Derived.WideLaws
import Derived.Deep.DeepCutAuto
import Derived.Deep.CutBlock
import Derived.Deep.RegionHeld3
import Derived.Laws.Rows
import Derived.Lib.AppendStr
import Derived.ArgAppend
import Derived.Laws.IdiomCopy
import Derived.OrdersHeld
import Derived.Laws.BitsLemmas
import Derived.RowKit
import Derived.Test.YthfppmgnemmckaaGreatDoorWWords
import Derived.Test.YthfppmgnemmckaaGreatDoorWLast
import Derived.Test.YthfppmgnemmckaaGreatDoorWTab
import Derived.Test.YthfppmgnemmckaaGreatDoorWFour
import Derived.Test.YthfppmgnemmckaaGreatDoorWQPut
import Derived.Test.YthfppmgnemmckaaGreatDoorWApart
import Derived.Test.YthfppmgnemmckaaGreatDoorWArr
import Derived.Test.YthfppmgnemmckaaGreatDoorWZeros
import Derived.Test.YthfppmgnemmckaaGreatDoorWFoot
import Derived.Test.YthfppmgnemmckaaGreatDoorWKept
import Derived.Test.YthfppmgnemmckaaGreatDoorWShare
import Derived.Test.YthfppmgnemmckaaGreatDoorWN
import Derived.Test.YthfppmgnemmckaaGreatDoorWFootNe
import Derived.Test.YthfppmgnemmckaaGreatDoorWAt
import Derived.Test.YthfppmgnemmckaaGreatDoorWEqStruct
import Derived.Test.YthfppmgnemmckaaGreatDoorWRepsOne
import Derived.Test.YthfppmgnemmckaaGreatDoorWInv
import Derived.Test.YthfppmgnemmckaaGreatDoorWInvWords
import Derived.Test.YthfppmgnemmckaaGreatDoorWGuard
import Derived.Test.YthfppmgnemmckaaGreatDoorWNEv
import Derived.Test.YthfppmgnemmckaaGreatDoorWMore
namespace Go.Proofs.YthfppmgnemmckaaGreatDoor.PDo
open Go.RowKit Go.Proofs.YthfppmgnemmckaaGreatDoorW.PrintWords Go.Proofs.YthfppmgnemmckaaGreatDoorW.PrintLast Go.Proofs.YthfppmgnemmckaaGreatDoorW.PrintMore
attribute [local go_sem] max2_int min2_int max_two min_two max_three min_three max_four min_four   -- for this text's walks alone
set_option linter.unusedVariables false
set_option linter.unusedSimpArgs false



def errW : Option Int → Value
  | none => .nilIface
  | some c => .iface 0 (.int .i64 c)
theorem errW_none : errW none = .nilIface := rfl
theorem errW_some (c : Int) : errW (some c) = .iface 0 (.int .i64 c) := rfl

theorem info3 : (Tryz.prog.info? 3).map (fun i => (i.zero, i.size, i.bytes)) = some (some (.int .i64 0), 1, 8) := by kernel_rfl
-- the values' own types

end Go.Proofs.YthfppmgnemmckaaGreatDoor.PDo
