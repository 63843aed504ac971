import Derived.Test.YtniklmikdkjgiaaGreatDoorCXG
import Derived.Great.BuildSlice
import Derived.Deep.RegionHeld
set_option linter.all false
set_option maxHeartbeats 16000000
set_option maxRecDepth 100000
namespace Go.Proofs.YtniklmikdkjgiaaGreatDoor
open Go.RowKit
end Go.Proofs.YtniklmikdkjgiaaGreatDoor
namespace Go.Proofs.YtniklmikdkjgiaaGreatDoor
open Go.RowKit
end Go.Proofs.YtniklmikdkjgiaaGreatDoor
namespace Go.Proofs.YtniklmikdkjgiaaGreatDoor
open Go.RowKit
end Go.Proofs.YtniklmikdkjgiaaGreatDoor
namespace Go.Proofs.YtniklmikdkjgiaaGreatDoor
open Go.RowKit
end Go.Proofs.YtniklmikdkjgiaaGreatDoor
namespace Go.Proofs.YtniklmikdkjgiaaGreatDoor
open Go.RowKit
section
variable {α β:Type} {f:α → β → Bool}
end
theorem OldB.set {W w:World} (h:OldB W w) {p:Nat} (hp:W.heap.size ≤ p) (i:Nat) (v:Value):OldB W (w.setCell ⟨p,i,none⟩ v):=Below.setCell h hp v
section
variable {P:Program} {ops:Array Oper} {Q:Exit → Act → World → Prop} {md:Region.Mode} {S:World → Prop}
end
section
variable {o:Oper} {a:Act} {w:World} {Q:Exit → Act → World → Prop}
end
end Go.Proofs.YtniklmikdkjgiaaGreatDoor
namespace Go.Proofs.YtniklmikdkjgiaaGreatDoor
open Go.RowKit
end Go.Proofs.YtniklmikdkjgiaaGreatDoor
