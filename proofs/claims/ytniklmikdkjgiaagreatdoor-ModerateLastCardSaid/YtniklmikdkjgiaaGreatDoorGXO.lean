import Derived.Test.YtniklmikdkjgiaaGreatDoorCXI
import Derived.BigGuard
import Derived.BigCall
set_option linter.all false
set_option maxHeartbeats 16000000
set_option maxRecDepth 100000
namespace Go.Proofs.YtniklmikdkjgiaaGreatDoor
open Go.RowKit
end Go.Proofs.YtniklmikdkjgiaaGreatDoor
namespace Go.Proofs.YtniklmikdkjgiaaGreatDoor
open Go.RowKit
theorem own_empty21 (w:World) {cs:Array Value} (hcs:cs = #[]) (t:TypeId):(w.alloc (.cells cs t)).ownsRow w.heap.size t 21 (.slice (some ⟨w.heap.size,0,none⟩) 0 0) 0 (rvsL []):=by
 subst hcs
 exact ⟨rfl,.inr ⟨w.heap.size,0,#[],rfl,Nat.le_refl _,heap_alloc_new w _,Nat.le_refl _,by simp [maxLen],by simp,by simp [rvsL]⟩⟩
end Go.Proofs.YtniklmikdkjgiaaGreatDoor
