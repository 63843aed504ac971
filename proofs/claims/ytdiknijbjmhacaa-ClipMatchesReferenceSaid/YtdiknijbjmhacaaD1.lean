/- WALKS: the reference's points and boxes. -/
import Derived.Test.YtdiknijbjmhacaaC2
set_option linter.unusedSimpArgs false
set_option linter.unusedVariables false
namespace Go.Proofs.Ytdiknijbjmhacaa
open Go.RowKit

theorem rin_pt (x y x0 y0 x1 y1 : Int) (w : World) :
    Calls Try.prog 20 #[.agg #[.int .i64 x, .int .i64 y], .agg #[.int .i64 x0, .int .i64 y0, .int .i64 x1, .int .i64 y1]] w fun e w' => e = .returned (.bool (Cl.inB (x, y) ⟨x0, y0, x1, y1⟩)) ∧ Below w.heap.size w w' := by
  have fin : Below w.heap.size w ((w.alloc (.cells #[.int .i64 x, .int .i64 y] 24)).alloc (.cells #[.int .i64 x0, .int .i64 y0, .int .i64 x1, .int .i64 y1] 26)) := ((Below.refl _ _).alloc (Nat.le_refl _) _).alloc (by simp) _
  have HF := Lib.hid fin; clear fin
  by_cases a : x0 ≤ x
  · by_cases b : x ≤ x1
    · by_cases c : y0 ≤ y
      · have HE : Hid (decide (y ≤ y1) = Cl.inB (x, y) ⟨x0, y0, x1, y1⟩) := Lib.hid (by simp [Cl.inB, a, b, c])
        go_enter Try.func20, Try.ntmps20
        go_wp2
        go_ret
        exact ⟨ret_bool HE.out, HF.out⟩
      · have HE : Hid (false = Cl.inB (x, y) ⟨x0, y0, x1, y1⟩) := Lib.hid (by simp [Cl.inB, a, b, c])
        go_enter Try.func20, Try.ntmps20
        go_wp2
        go_ret
        exact ⟨ret_bool HE.out, HF.out⟩
    · have HE : Hid (false = Cl.inB (x, y) ⟨x0, y0, x1, y1⟩) := Lib.hid (by simp [Cl.inB, a, b])
      go_enter Try.func20, Try.ntmps20
      go_wp2
      go_ret
      exact ⟨ret_bool HE.out, HF.out⟩
  · have HE : Hid (false = Cl.inB (x, y) ⟨x0, y0, x1, y1⟩) := Lib.hid (by simp [Cl.inB, a])
    go_enter Try.func20, Try.ntmps20
    go_wp2
    go_ret
    exact ⟨ret_bool HE.out, HF.out⟩

theorem is_any (x y : Int) (w : World) :
    Calls Try.prog 41 #[.agg #[.int .i64 x, .int .i64 y]] w fun e w' => e = .returned (.bool (Cl.nearB x y)) ∧ Below w.heap.size w w' := by
  have HF : Hid (Below w.heap.size w (w.alloc (.cells #[.int .i64 x, .int .i64 y] 24))) := (Below.refl _ _).alloc (Nat.le_refl _) _
  by_cases a : -2097152 ≤ x
  · by_cases b : x ≤ 2097152
    · by_cases c : -2097152 ≤ y
      · have HE : Hid (decide (y ≤ 2097152) = Cl.nearB x y) := Lib.hid (by simp [Cl.nearB, a, b, c])
        go_enter Try.func41, Try.ntmps41
        go_wp2
        go_ret
        exact ⟨ret_bool HE.out, HF.out⟩
      · have HE : Hid (false = Cl.nearB x y) := Lib.hid (by simp [Cl.nearB, a, b, c])
        go_enter Try.func41, Try.ntmps41
        go_wp2
        go_ret
        exact ⟨ret_bool HE.out, HF.out⟩
    · have HE : Hid (false = Cl.nearB x y) := Lib.hid (by simp [Cl.nearB, a, b])
      go_enter Try.func41, Try.ntmps41
      go_wp2
      go_ret
      exact ⟨ret_bool HE.out, HF.out⟩
  · have HE : Hid (false = Cl.nearB x y) := Lib.hid (by simp [Cl.nearB, a])
    go_enter Try.func41, Try.ntmps41
    go_wp2
    go_ret
    exact ⟨ret_bool HE.out, HF.out⟩
theorem rproper_any (x0 y0 x1 y1 : Int) (w : World) :
    Calls Try.prog 19 #[.agg #[.int .i64 x0, .int .i64 y0, .int .i64 x1, .int .i64 y1]] w fun e w' => e = .returned (.bool (Cl.boxB ⟨x0, y0, x1, y1⟩)) ∧ Below w.heap.size w w' := by
  have B0 : Hid (Below w.heap.size w (w.alloc (.cells #[.int .i64 x0, .int .i64 y0, .int .i64 x1, .int .i64 y1] 26))) := (Below.refl _ _).alloc (Nat.le_refl _) _
  have X0 : Hid (BoxAt (w.alloc (.cells #[.int .i64 x0, .int .i64 y0, .int .i64 x1, .int .i64 y1] 26)) w.heap.size ⟨x0, y0, x1, y1⟩) := Lib.hid (heap_alloc_new w _)
  rcases hp : Cl.nearB x0 y0 with _ | _
  · have HE : Hid (false = Cl.boxB ⟨x0, y0, x1, y1⟩) := Lib.hid (by simp [Cl.boxB, hp])
    have HP := Lib.hid hp; clear hp
    go_enter Try.func19, Try.ntmps19
    go_wp2_with fail
    refine (is_any x0 y0 _).mono ?_
    rw [HP.out]
    rintro e w1 ⟨rfl, hb1⟩
    have b1 := Lib.hid hb1; clear hb1
    go_wp2
    go_ret
    exact ⟨ret_bool HE.out, B0.out.trans (b1.out.mono B0.out.size)⟩
  · have HP := Lib.hid hp; clear hp
    go_enter Try.func19, Try.ntmps19
    go_wp2_with fail
    refine (is_any x0 y0 _).mono ?_
    rw [HP.out]
    rintro e w1 ⟨rfl, hb1⟩
    have X1 := Lib.hid (X0.out.below hb1 (by simp))
    have b1 := Lib.hid (B0.out.trans (hb1.mono B0.out.size)); clear hb1
    have X1c := X1.out.c
    obtain ⟨k0, k1, k2, k3⟩ := X1c
    simp only at k0 k1 k2 k3
    have hlt1 : w.heap.size < w1.heap.size := lt_of_block X1.out
    go_wp2_with fail
    refine (is_any x1 y1 _).mono ?_
    clear k0 k1 k2 k3
    rcases hp2 : Cl.nearB x1 y1 with _ | _
    · have HE : Hid (false = Cl.boxB ⟨x0, y0, x1, y1⟩) := Lib.hid (by simp [Cl.boxB, hp2])
      have HP2 := Lib.hid hp2; clear hp2
      rintro e w2 ⟨rfl, hb1⟩
      have b2 := Lib.hid (b1.out.trans (hb1.mono b1.out.size)); clear hb1
      go_wp2
      go_ret
      exact ⟨ret_bool HE.out, b2.out⟩
    · have HP2 := Lib.hid hp2; clear hp2
      rintro e w2 ⟨rfl, hb1⟩
      have X2 := Lib.hid (X1.out.below hb1 hlt1)
      have b2 := Lib.hid (b1.out.trans (hb1.mono b1.out.size)); clear hb1
      have X2c := X2.out.c
      obtain ⟨k0, k1, k2, k3⟩ := X2c
      simp only at k0 k1 k2 k3
      by_cases hx : x0 ≤ x1
      · have hx' : decide (x0 ≤ x1) = true := by simpa using hx
        by_cases hy : y0 ≤ y1
        · have hy' : decide (y0 ≤ y1) = true := by simpa using hy
          have HE : Hid (true = Cl.boxB ⟨x0, y0, x1, y1⟩) := Lib.hid (by simp [Cl.boxB, HP.out, HP2.out, hx, hy])
          clear hx hy
          go_wp2
          go_ret
          exact ⟨ret_bool HE.out, b2.out⟩
        · have hy' : decide (y0 ≤ y1) = false := by simpa using hy
          have HE : Hid (false = Cl.boxB ⟨x0, y0, x1, y1⟩) := Lib.hid (by simp [Cl.boxB, hy])
          clear hx hy
          go_wp2
          go_ret
          exact ⟨ret_bool HE.out, b2.out⟩
      · have hx' : decide (x0 ≤ x1) = false := by simpa using hx
        have HE : Hid (false = Cl.boxB ⟨x0, y0, x1, y1⟩) := Lib.hid (by simp [Cl.boxB, hx])
        clear hx
        go_wp2
        go_ret
        exact ⟨ret_bool HE.out, b2.out⟩
end Go.Proofs.Ytdiknijbjmhacaa
