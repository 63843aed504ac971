/- WALKS: mixing. -/
import Derived.Test.YtlejeelmlclnkaaGreatDoorDP
import Derived.Test.YtlejeelmlclnkaaGreatDoorQS
import Derived.Test.YtlejeelmlclnkaaGreatDoorMem
import Derived.Laws.Bits64b
set_option linter.unusedSimpArgs false
set_option linter.unusedVariables false
namespace Go.Proofs.YtlejeelmlclnkaaGreatDoor
open Go.RowKit

theorem mul1 (x : Nat) (hx : x < Dg.M) (w : World) : Calls Tryz.prog 103 #[.int .u64 x, .int .u64 2862933555777941757] w fun e w' => e = .returned (.tuple #[.int .u64 ((x * Dg.C1 / 18446744073709551616 : Nat) : Int), .int .u64 ((Dg.mulM Dg.C1 x : Nat) : Int)]) ∧ w' = w :=
  Tryz.bits_Mul64 x 2862933555777941757 hx (by decide) w
theorem mul2 (x : Nat) (hx : x < Dg.M) (w : World) : Calls Tryz.prog 103 #[.int .u64 x, .int .u64 3935559000370003845] w fun e w' => e = .returned (.tuple #[.int .u64 ((x * Dg.C2 / 18446744073709551616 : Nat) : Int), .int .u64 ((Dg.mulM Dg.C2 x : Nat) : Int)]) ∧ w' = w :=
  Tryz.bits_Mul64 x 3935559000370003845 hx (by decide) w
theorem xsh32 (y : Nat) (hy : y < Dg.M) : bits .xor .u64 (y : Int) ((y : Int) / 4294967296) = ((Dg.xsh 32 y : Nat) : Int) := by
  have := xorShift_u64 y 4294967296 hy
  unfold Dg.xsh
  rw [Nat.shiftRight_eq_div_pow]
  exact this
theorem xsh29 (y : Nat) (hy : y < Dg.M) : bits .xor .u64 (y : Int) ((y : Int) / 536870912) = ((Dg.xsh 29 y : Nat) : Int) := by
  have := xorShift_u64 y 536870912 hy
  unfold Dg.xsh
  rw [Nat.shiftRight_eq_div_pow]
  exact this
theorem mix_any (x : Nat) (w : World) (hx : x < Dg.M) : Calls Tryz.prog 61 #[.int .u64 (x : Int)] w fun e w' => e = .returned (.int .u64 ((Dg.mix x : Nat) : Int)) ∧ w = w' := by
  have e1 := xsh32 (Dg.mulM Dg.C1 x) (Dg.mulM_lt _ _)
  have e2 := xsh29 (Dg.mulM Dg.C2 (Dg.xsh 32 (Dg.mulM Dg.C1 x))) (Dg.mulM_lt _ _)
  have EM : Hid (Dg.mix x = Dg.xsh 29 (Dg.mulM Dg.C2 (Dg.xsh 32 (Dg.mulM Dg.C1 x)))) := Lib.hid rfl
  go_enter Tryz.func61, Tryz.ntmps61
  go_wp2_with fail
  refine (mul1 x hx _).mono ?_
  rintro e w' ⟨rfl, rfl⟩
  go_wp2_with fail
  refine (mul2 _ (Dg.xsh_lt (Dg.mulM_lt _ _)) _).mono ?_
  rintro e w' ⟨rfl, rfl⟩
  go_wp2_with fail
  go_ret
  exact ⟨by rw [EM.out]; rfl, rfl⟩
end Go.Proofs.YtlejeelmlclnkaaGreatDoor
