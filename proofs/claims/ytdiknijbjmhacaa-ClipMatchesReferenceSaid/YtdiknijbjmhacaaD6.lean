/- WALKS: the reference's rounding, comparing of ratios, a point at a ratio. -/
import Derived.Test.YtdiknijbjmhacaaD5
import Derived.Test.YtdiknijbjmhacaaC5
set_option linter.unusedSimpArgs false
set_option linter.unusedVariables false
namespace Go.Proofs.Ytdiknijbjmhacaa
open Go.RowKit

theorem rfloor_any (a b : Int) (w : World) (ha : -100000000000000 ≤ a ∧ a ≤ 100000000000000) (hb : 0 < b ∧ b ≤ 100000000000000) :
    Calls Try.prog 55 #[.int .i64 a, .int .i64 b] w fun e w' => e = .returned (.int .i64 (a / b)) ∧ w = w' := by
  obtain ⟨ha1, ha2⟩ := ha
  obtain ⟨hb0, hb2⟩ := hb
  have hb1 : b ≠ 0 := by omega
  obtain ⟨hq1, hq2⟩ := quo_bd (a := a) (b := b) 100000000000000 ⟨ha1, ha2⟩
  by_cases hneg : a.tmod b < 0
  · have HE := Lib.hid (quo_floor hb0 hneg)
    go_enter Try.func55, Try.ntmps55
    go_wp2
    go_ret
    exact ⟨ret_int HE.out, rfl⟩
  · have HE := Lib.hid (quo_floor' hb0 hneg)
    go_enter Try.func55, Try.ntmps55
    go_wp2
    go_ret
    exact ⟨ret_int HE.out, rfl⟩
theorem rround_any (a b : Int) (w : World) (ha : -40000000000000 ≤ a ∧ a ≤ 40000000000000) (hb : 0 < b ∧ b ≤ 10000000) :
    Calls Try.prog 52 #[.int .i64 a, .int .i64 b] w fun e w' => e = .returned (.int .i64 ((2 * a + b) / (2 * b))) ∧ w = w' := by
  obtain ⟨ha1, ha2⟩ := ha
  obtain ⟨hb0, hb2⟩ := hb
  go_enter Try.func52, Try.ntmps52
  go_wp2_with fail
  refine (rfloor_any (2 * a + b) (2 * b) _ (by omega) (by omega)).mono ?_
  rintro e w' ⟨rfl, rfl⟩
  go_wp2
  go_ret
  exact ⟨rfl, rfl⟩
theorem rless_any (a b c d : Int) (w : World) (ha : -10000000 ≤ a ∧ a ≤ 10000000) (hb : -10000000 ≤ b ∧ b ≤ 10000000) (hc : -10000000 ≤ c ∧ c ≤ 10000000) (hd : -10000000 ≤ d ∧ d ≤ 10000000) :
    Calls Try.prog 53 #[.agg #[.int .i64 a, .int .i64 b], .agg #[.int .i64 c, .int .i64 d]] w fun e w' => e = .returned (.bool (decide (a * d < c * b))) ∧ Below w.heap.size w w' := by
  obtain ⟨h1, h2⟩ := mul_bd 10000000 10000000 ha hd
  obtain ⟨h3, h4⟩ := mul_bd 10000000 10000000 hc hb
  go_enter Try.func53, Try.ntmps53
  go_wp2
  go_ret
  exact ⟨rfl, ((Below.refl _ _).alloc (Nat.le_refl _) _).alloc (by simp) _⟩
end Go.Proofs.Ytdiknijbjmhacaa
