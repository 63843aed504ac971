import Derived.Test.YtniklmikdkjgiaaGreatDoorETP
import Derived.Laws.BytesArg
set_option linter.all false
set_option maxHeartbeats 16000000
set_option maxRecDepth 100000
namespace Go.Proofs.YtniklmikdkjgiaaGreatDoor
open Go.RowKit Go.ChangeShapes Go.WideShapes Go.Deep
section
variable {H:Type} {enc:TypeId × Value → H} {w:World} {base:Nat} {held:Bool}
end
theorem ofV_ok {es:List Sx} {t:Tx} (h:∀ e ∈ es,∃ A c,e.cur.edv = .slice A e.cur.edits.length c):(ofV (ofS es t)).size = 4 ∧ (ofV (ofS es t)).all (·.oneCell') = true:=by
 cases hf:ofS es t with
 | none=>exact ⟨rfl,by simp [ofV,Value.oneCell']⟩
 | some e =>
  obtain ⟨A,c,e1⟩:=h e (by unfold ofS at hf; exact List.mem_of_find?_eq_some hf)
  refine ⟨rfl,?_⟩
  show (stL e).toArray.all _ = true
  unfold stL
  rw [e1]
  simp [Value.oneCell']
end Go.Proofs.YtniklmikdkjgiaaGreatDoor
namespace Go.Proofs.YtniklmikdkjgiaaGreatDoor
open Go.RowKit
end Go.Proofs.YtniklmikdkjgiaaGreatDoor
namespace Go.Proofs.YtniklmikdkjgiaaGreatDoor
open Go.RowKit Go.Maps Go.ChangeMaps Go.MapKept Go.WideShapes Go.WideMaps
end Go.Proofs.YtniklmikdkjgiaaGreatDoor
