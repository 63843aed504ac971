/- WALKS: what a cut keeps, by the reference. -/
import Derived.Test.YtdiknijbjmhacaaD6
set_option linter.unusedSimpArgs false
set_option linter.unusedVariables false
namespace Go.Proofs.Ytdiknijbjmhacaa
open Go.RowKit

theorem rkept0 (x y x0 y0 x1 y1 : Int) (w : World) :
    Calls Try.prog 39 #[.agg #[.int .i64 x, .int .i64 y], .agg #[.int .i64 x0, .int .i64 y0, .int .i64 x1, .int .i64 y1], .int .i64 0] w fun e w' => e = .returned (.bool (Cl.kept ⟨x0, y0, x1, y1⟩ 0 (x, y))) ∧ Below w.heap.size w w' := by
  have HF : Hid (Below w.heap.size w ((w.alloc (.cells #[.int .i64 x, .int .i64 y] 24)).alloc (.cells #[.int .i64 x0, .int .i64 y0, .int .i64 x1, .int .i64 y1] 26))) := ((Below.refl _ _).alloc (Nat.le_refl _) _).alloc (by simp) _
  go_enter Try.func39, Try.ntmps39
  go_wp2
  go_ret
  exact ⟨rfl, HF.out⟩
theorem rkept1 (x y x0 y0 x1 y1 : Int) (w : World) :
    Calls Try.prog 39 #[.agg #[.int .i64 x, .int .i64 y], .agg #[.int .i64 x0, .int .i64 y0, .int .i64 x1, .int .i64 y1], .int .i64 1] w fun e w' => e = .returned (.bool (Cl.kept ⟨x0, y0, x1, y1⟩ 1 (x, y))) ∧ Below w.heap.size w w' := by
  have HF : Hid (Below w.heap.size w ((w.alloc (.cells #[.int .i64 x, .int .i64 y] 24)).alloc (.cells #[.int .i64 x0, .int .i64 y0, .int .i64 x1, .int .i64 y1] 26))) := ((Below.refl _ _).alloc (Nat.le_refl _) _).alloc (by simp) _
  go_enter Try.func39, Try.ntmps39
  go_wp2
  go_ret
  exact ⟨rfl, HF.out⟩
theorem rkept2 (x y x0 y0 x1 y1 : Int) (w : World) :
    Calls Try.prog 39 #[.agg #[.int .i64 x, .int .i64 y], .agg #[.int .i64 x0, .int .i64 y0, .int .i64 x1, .int .i64 y1], .int .i64 2] w fun e w' => e = .returned (.bool (Cl.kept ⟨x0, y0, x1, y1⟩ 2 (x, y))) ∧ Below w.heap.size w w' := by
  have HF : Hid (Below w.heap.size w ((w.alloc (.cells #[.int .i64 x, .int .i64 y] 24)).alloc (.cells #[.int .i64 x0, .int .i64 y0, .int .i64 x1, .int .i64 y1] 26))) := ((Below.refl _ _).alloc (Nat.le_refl _) _).alloc (by simp) _
  go_enter Try.func39, Try.ntmps39
  go_wp2
  go_ret
  exact ⟨rfl, HF.out⟩
theorem rkept3 (x y x0 y0 x1 y1 : Int) (w : World) :
    Calls Try.prog 39 #[.agg #[.int .i64 x, .int .i64 y], .agg #[.int .i64 x0, .int .i64 y0, .int .i64 x1, .int .i64 y1], .int .i64 3] w fun e w' => e = .returned (.bool (Cl.kept ⟨x0, y0, x1, y1⟩ 3 (x, y))) ∧ Below w.heap.size w w' := by
  have HF : Hid (Below w.heap.size w ((w.alloc (.cells #[.int .i64 x, .int .i64 y] 24)).alloc (.cells #[.int .i64 x0, .int .i64 y0, .int .i64 x1, .int .i64 y1] 26))) := ((Below.refl _ _).alloc (Nat.le_refl _) _).alloc (by simp) _
  go_enter Try.func39, Try.ntmps39
  go_wp2
  go_ret
  exact ⟨rfl, HF.out⟩
end Go.Proofs.Ytdiknijbjmhacaa
