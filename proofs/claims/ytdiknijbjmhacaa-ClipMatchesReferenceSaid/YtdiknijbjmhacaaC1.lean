/- WALKS: the leaves of clip. -/
import Derived.Test.YtdiknijbjmhacaaRows
import Derived.Test.YtdiknijbjmhacaaMem
import Derived.Test.YtdiknijbjmhacaaK0
import Derived.WalkKit
import Derived.WalkSpells
import Derived.WalkLawsBesides
import Derived.Deep.QuietTactic
import Derived.BigQuiet
import Derived.IntWalk
set_option linter.unusedSimpArgs false
set_option linter.unusedVariables false
namespace Go.Proofs.Ytdiknijbjmhacaa
open Go.RowKit

def ptv (p : Cl.Pt) : Value := .agg #[.int .i64 p.1, .int .i64 p.2]
def bxv (b : Cl.Bx) : Value := .agg #[.agg #[.int .i64 b.x0, .int .i64 b.y0], .agg #[.int .i64 b.x1, .int .i64 b.y1]]
def rtv (r : Cl.Rt) : Value := .agg #[.int .i64 r.n, .int .i64 r.d]

def max4 (x y z u : Int) : Int := max (max (max x y) z) u
theorem run_max4 {P : Program} {w : World} (ts : Array TypeId) (t : TypeId) (k1 k2 k3 k4 : IntKind) (x y z u : Int) : (Builtin.max_ ts t #[.int k1 x, .int k2 y, .int k3 z, .int k4 u]).run P w = .ok (.int k1 (max4 x y z u)) w := by
  have e : ∀ a b : Int, (if b > a then b else a) = max a b := fun a b => by by_cases h : b > a <;> simp [h] <;> omega
  simp [Builtin.max_, Builtin.max2, max4, e]
attribute [local go_sem] run_max4
theorem max4_le {x y z u c : Int} : max4 x y z u ≤ c ↔ x ≤ c ∧ y ≤ c ∧ z ≤ c ∧ u ≤ c := by unfold max4; omega
theorem neg_wrap {x : Int} (h1 : -9223372036854775808 ≤ x) (h2 : x ≤ 9223372036854775807) : (x = -9223372036854775808 ∧ wrap64 (-x) = -9223372036854775808) ∨ wrap64 (-x) = -x := by
  by_cases h : x = -9223372036854775808
  · subst h; exact .inl ⟨rfl, by decide +kernel⟩
  · exact .inr (IntWalk.wrap64_in _ ⟨by omega, by omega⟩)
theorem nearB_eq (x y : Int) : Cl.nearB x y = decide (-2097152 ≤ x ∧ x ≤ 2097152 ∧ -2097152 ≤ y ∧ y ≤ 2097152) := by
  unfold Cl.nearB; rw [Bool.eq_iff_iff]; simp; omega
section
variable {x y : Int} (hx1 : -9223372036854775808 ≤ x) (hx2 : x ≤ 9223372036854775807) (hy1 : -9223372036854775808 ≤ y) (hy2 : y ≤ 9223372036854775807)
include hx1 hx2 hy1 hy2
theorem near_a (h : max4 x (wrap64 (-x)) y (wrap64 (-y)) ≤ 2097152) (h2 : y < x) : decide (-2097152 ≤ y) = Cl.nearB x y := by
  have := max4_le.1 h
  rw [nearB_eq, decide_eq_decide]
  rcases neg_wrap hx1 hx2 with h3 | h3 <;> rcases neg_wrap hy1 hy2 with h4 | h4 <;> omega
theorem near_b (h : max4 x (wrap64 (-x)) y (wrap64 (-y)) ≤ 2097152) (h2 : x ≤ y) : decide (-2097152 ≤ x) = Cl.nearB x y := by
  have := max4_le.1 h
  rw [nearB_eq, decide_eq_decide]
  rcases neg_wrap hx1 hx2 with h3 | h3 <;> rcases neg_wrap hy1 hy2 with h4 | h4 <;> omega
theorem near_c (h : 2097152 < max4 x (wrap64 (-x)) y (wrap64 (-y))) : false = Cl.nearB x y := by
  have h' : ¬ (max4 x (wrap64 (-x)) y (wrap64 (-y)) ≤ 2097152) := by omega
  rw [max4_le] at h'
  rw [nearB_eq]
  symm
  rw [decide_eq_false_iff_not]
  rcases neg_wrap hx1 hx2 with h3 | h3 <;> rcases neg_wrap hy1 hy2 with h4 | h4 <;> omega
end

set_option maxHeartbeats 800000 in
theorem near_any (x y : Int) (w : World) (hx : -9223372036854775808 ≤ x ∧ x ≤ 9223372036854775807) (hy : -9223372036854775808 ≤ y ∧ y ≤ 9223372036854775807) :
    Calls Try.prog 44 #[.agg #[.int .i64 x, .int .i64 y]] w fun e w' => e = .returned (.bool (Cl.nearB x y)) ∧ Below w.heap.size w w' := by
  obtain ⟨hx1, hx2⟩ := hx
  obtain ⟨hy1, hy2⟩ := hy
  go_enter Try.func44, Try.ntmps44
  go_wp2
  · go_ret; exact ⟨ret_bool (near_a hx1 hx2 hy1 hy2 (by assumption) (by assumption)), (Below.refl _ _).alloc (Nat.le_refl _) _⟩
  · go_ret; exact ⟨ret_bool (near_b hx1 hx2 hy1 hy2 (by assumption) (by assumption)), (Below.refl _ _).alloc (Nat.le_refl _) _⟩
  · go_ret; exact ⟨ret_bool (near_c hx1 hx2 hy1 hy2 (by assumption)), (Below.refl _ _).alloc (Nat.le_refl _) _⟩

theorem of_any (a b : Int) (w : World) (ha : -1000000000000 ≤ a ∧ a ≤ 1000000000000) (hb : -1000000000000 ≤ b ∧ b ≤ 1000000000000) :
    Calls Try.prog 48 #[.int .i64 a, .int .i64 b] w fun e w' => e = .returned (rtv (Cl.rof a b)) ∧ Below w.heap.size w w' := by
  obtain ⟨ha1, ha2⟩ := ha
  obtain ⟨hb1, hb2⟩ := hb
  by_cases hlt : b < 0
  · have HE : Hid (Cl.rof a b = ⟨-a, -b⟩) := Lib.hid (if_pos hlt)
    go_enter Try.func48, Try.ntmps48
    go_wp2
    refine bodyPost_ret (v := .agg #[.int .i64 (-a), .int .i64 (-b)]) (by simp [results, Try.results48, go_sem]) rfl ⟨by rw [HE.out]; rfl, ?_⟩
    exact (Below.refl _ _).alloc (Nat.le_refl _) _
  · have HE : Hid (Cl.rof a b = ⟨a, b⟩) := Lib.hid (if_neg hlt)
    go_enter Try.func48, Try.ntmps48
    go_wp2
    refine bodyPost_ret (v := .agg #[.int .i64 a, .int .i64 b]) (by simp [results, Try.results48, go_sem]) rfl ⟨by rw [HE.out]; rfl, ?_⟩
    exact (Below.refl _ _).alloc (Nat.le_refl _) _

theorem mul_bd {a b : Int} (A B : Int) (ha : -A ≤ a ∧ a ≤ A) (hb : -B ≤ b ∧ b ≤ B) : -(A * B) ≤ a * b ∧ a * b ≤ A * B := by
  have h := Int.natAbs_mul a b
  have h1 : a.natAbs ≤ A.toNat := by omega
  have h2 : b.natAbs ≤ B.toNat := by omega
  have h3 : a.natAbs * b.natAbs ≤ A.toNat * B.toNat := Nat.mul_le_mul h1 h2
  have h4 : ((A.toNat * B.toNat : Nat) : Int) = A * B := by rw [Int.natCast_mul, Int.toNat_of_nonneg (by omega), Int.toNat_of_nonneg (by omega)]
  have h5 : ((a * b).natAbs : Int) ≤ A * B := by rw [← h4, h]; exact_mod_cast h3
  omega
theorem less_any (a b c d : Int) (w : World) (ha : -10000000 ≤ a ∧ a ≤ 10000000) (hb : -10000000 ≤ b ∧ b ≤ 10000000) (hc : -10000000 ≤ c ∧ c ≤ 10000000) (hd : -10000000 ≤ d ∧ d ≤ 10000000) :
    Calls Try.prog 49 #[.agg #[.int .i64 a, .int .i64 b], .agg #[.int .i64 c, .int .i64 d]] w fun e w' => e = .returned (.bool (decide (a * d < c * b))) ∧ Below w.heap.size w w' := by
  obtain ⟨h1, h2⟩ := mul_bd 10000000 10000000 ha hd
  obtain ⟨h3, h4⟩ := mul_bd 10000000 10000000 hc hb
  go_enter Try.func49, Try.ntmps49
  go_wp2
  go_ret
  exact ⟨rfl, ((Below.refl _ _).alloc (Nat.le_refl _) _).alloc (by simp) _⟩
end Go.Proofs.Ytdiknijbjmhacaa
