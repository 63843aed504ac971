import Derived.Test.YtniklmikdkjgiaaGreatDoorRows
import Derived.Test.YtniklmikdkjgiaaGreatDoorcXQ
import Derived.BigGuard
import Derived.BigCall
import Derived.Deep.Slices
import Derived.Deep.Fields
import Derived.ChangeSame
import Derived.ChangeArms
import Derived.SizedLaws
import Derived.SliceStrings
import Derived.OpenShut
import Derived.Lib.LaidTab
import Derived.Stop.LaidErr
import Derived.Laws.BytesArg
set_option linter.all false
set_option maxHeartbeats 16000000
set_option maxRecDepth 100000
namespace Go.Proofs.YtniklmikdkjgiaaGreatDoor
open Go.RowKit Go.ChangeShapes Go.WideShapes Go.Deep
section
variable {H : Type} {enc : TypeId × Value → H} {w : World} {base : Nat} {held : Bool}
end
theorem OldB.then2 {W u w' : World} (h : OldB W u) (k : Below W.heap.size u w') : OldB W w' := Below.trans h k
end Go.Proofs.YtniklmikdkjgiaaGreatDoor
namespace Go.Proofs.YtniklmikdkjgiaaGreatDoor
open Go.RowKit
end Go.Proofs.YtniklmikdkjgiaaGreatDoor
namespace Go.Proofs.YtniklmikdkjgiaaGreatDoor
open Go.RowKit Go.Maps Go.ChangeMaps Go.MapKept Go.WideShapes Go.WideMaps
end Go.Proofs.YtniklmikdkjgiaaGreatDoor
