import Derived.Test.YtniklmikdkjgiaaGreatDoorCXA
set_option linter.all false
set_option maxHeartbeats 16000000
set_option maxRecDepth 100000
namespace Go.Proofs.YtniklmikdkjgiaaGreatDoor.At
def has (l : List Ob) (id : T) : Bool := (look l id).isSome
end Go.Proofs.YtniklmikdkjgiaaGreatDoor.At
namespace Go.Proofs.YtniklmikdkjgiaaGreatDoor.At
end Go.Proofs.YtniklmikdkjgiaaGreatDoor.At
namespace Go.Proofs.YtniklmikdkjgiaaGreatDoor.Dg
end Go.Proofs.YtniklmikdkjgiaaGreatDoor.Dg
