import Derived.Test.YtniklmikdkjgiaaGreatDoorCXO
set_option linter.all false
set_option maxHeartbeats 16000000
set_option maxRecDepth 100000
namespace Go.Proofs.YtniklmikdkjgiaaGreatDoor
open Go.RowKit
def forgetR (i : Int) : RV := ⟨5, i, 2, 2, mainT, [], .slice none 0 0, [], .slice none 0 0, [], false, 0, [], zeroSl, [], [], [], .slice none 0 0, [], .slice none 0 0, zeroSl⟩
structure PlainR (r : RV) : Prop where
 is : ∀ w, RvIs w r
 sz : RcSz r.c
theorem forgetP (i : Int) : PlainR (forgetR i) :=
 ⟨fun w => ⟨sl_nil w, ⟨none, 0, rfl, es_nil w⟩, zeroSl_is w, sl_nil w, sl_nil w, zeroSl_is w⟩, ⟨Nat.le_of_ble_eq_true rfl, Nat.le_of_ble_eq_true rfl, Nat.le_of_ble_eq_true rfl, Nat.le_of_ble_eq_true rfl, Nat.le_of_ble_eq_true rfl, Nat.le_of_ble_eq_true rfl, (fun _ h => by cases h), Nat.le_of_ble_eq_true rfl, (fun _ h => by cases h), Nat.le_of_ble_eq_true rfl, zeroSe_sz, zeroSe_sz⟩⟩
end Go.Proofs.YtniklmikdkjgiaaGreatDoor
namespace Go.Proofs.YtniklmikdkjgiaaGreatDoor
open Go.RowKit
end Go.Proofs.YtniklmikdkjgiaaGreatDoor
