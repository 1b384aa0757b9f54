/-
  WRITTEN BY wip/tools/prune.py out of this claim's texts: the declarations that the theorem comes to, and no others. In it: PRClx0.
-/
import Derived.Test.YtfjnlliilnmfaaaGreatDoorProg
import Derived.Below
import Derived.Deep.Draws
import Derived.Deep.AppendLies
import Derived.Maps.AppendAt
import Derived.OwnWalk
import Derived.Laws.BytesArg
import Derived.Laws.MakeOwn
import Derived.Laws.OwnMore
import Derived.Deep.OwnRows
import Derived.Tactics
import Derived.Lib.ConvBytes
import Derived.Laws.Slices
import Derived.WalkKit
import Derived.KernelRfl
import Derived.RowKit3
import Derived.Deep.LoopGhost
import Derived.Deep.QuietTactic
import Derived.BigQuiet
import Derived.WideLaws
import Derived.Deep.DeepCutAuto
import Derived.Deep.CutBlock
import Derived.Deep.RegionHeld3
import Derived.Laws.Rows
import Derived.Lib.AppendStr
import Derived.ArgAppend
import Derived.Laws.IdiomCopy
import Derived.OrdersHeld
import Derived.Laws.BitsLemmas
import Derived.RowKit
import Derived.Test.YtfjnlliilnmfaaaGreatDoorC10
section
namespace Go.Proofs.YtfjnlliilnmfaaaGreatDoor.PRCl
open Go.Proofs.YtfjnlliilnmfaaaGreatDoor.Given
open Go.Proofs.YtfjnlliilnmfaaaGreatDoor.RC
open Go.Proofs.YtfjnlliilnmfaaaGreatDoor.RF
open Go.RowKit Go.Proofs.YtfjnlliilnmfaaaGreatDoorW.PrintWords Go.Proofs.YtfjnlliilnmfaaaGreatDoorW.PrintLast Go.Proofs.YtfjnlliilnmfaaaGreatDoorW.PrintMore
attribute [local go_sem] max2_int min2_int max_two min_two max_three min_three max_four min_four
set_option linter.unusedVariables false
set_option linter.unusedSimpArgs false
def errW : Option Int → Value
  | none => .nilIface
  | some c => .iface 0 (.int .i64 c)
theorem errW_none : errW none = .nilIface := rfl
theorem errW_some (c : Int) : errW (some c) = .iface 0 (.int .i64 c) := rfl
theorem info9 : (Tryz.prog.info? 9).map (fun i => (i.zero, i.size, i.bytes)) = some (some (.string ⟨#[]⟩), 1, 16) := by kernel_rfl
structure S24 where
  f0 : Int
  f1 : Int
  f2 : Int
  f3 : (List Int)
  f4 : ByteArray
  f5 : ByteArray
end Go.Proofs.YtfjnlliilnmfaaaGreatDoor.PRCl
end
