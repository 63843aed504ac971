import Derived.Test.YtniklmikdkjgiaaGreatDoorcTO
set_option linter.all false
set_option maxHeartbeats 16000000
set_option maxRecDepth 100000
namespace Go.Proofs.YtniklmikdkjgiaaGreatDoor
open Go.RowKit
def wv (g : Nat) : WoV := ⟨.slice none 0 0, [], .slice none 0 0, [0], .slice (some ⟨g, 0, none⟩) 1 1, 0, .slice none 0 0, .slice none 0 0⟩
end Go.Proofs.YtniklmikdkjgiaaGreatDoor
