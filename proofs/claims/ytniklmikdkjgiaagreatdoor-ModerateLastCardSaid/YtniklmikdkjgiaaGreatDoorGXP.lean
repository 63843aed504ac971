import Derived.Test.YtniklmikdkjgiaaGreatDoorCXP
set_option linter.all false
set_option maxHeartbeats 16000000
set_option maxRecDepth 100000
namespace Go.Proofs.YtniklmikdkjgiaaGreatDoor
open Go.RowKit Go.ChangeShapes Go.WideShapes Go.Deep
section
variable {H:Type} {enc:TypeId × Value → H} {w:World} {base:Nat} {held:Bool}
theorem recv_open {r:Reach} {b0:Nat} {v:Value} {d:DataW H} {p:List MemPlace} (hv:Value.okWide Tryz.prog w r b0 56 v) (h:DataW.Trod enc Tryz.prog w base (fun _=>true) held 56 v d p) (hw:Wt 56 d) :
  ∃ o:RV,v = rvA o ∧ RvW w o:=by
 obtain ⟨cs,rfl,hcs⟩:=okWide_struct Tryz.underlying56 hv
 obtain ⟨fuel,hf⟩:=h
 obtain ⟨o,e,h1⟩:=rec_open hf hw
 have e2:cs = (rvL o).toArray:=by simpa [Value.cells] using congrArg List.toArray e
 exact ⟨o,by rw [e2]; rfl,h1⟩
end
end Go.Proofs.YtniklmikdkjgiaaGreatDoor
namespace Go.Proofs.YtniklmikdkjgiaaGreatDoor
open Go.RowKit
end Go.Proofs.YtniklmikdkjgiaaGreatDoor
