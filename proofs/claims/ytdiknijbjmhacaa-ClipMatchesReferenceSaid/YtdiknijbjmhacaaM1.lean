/- WALKS: the point at which a cut is, by the reference (printed by gen_m1.py). -/
import Derived.Test.YtdiknijbjmhacaaL3
import Derived.Test.YtdiknijbjmhacaaF4
set_option linter.unusedSimpArgs false
set_option linter.unusedVariables false
namespace Go.Proofs.Ytdiknijbjmhacaa
open Go.RowKit
attribute [local go_sem ↓] Go.wp_at_zero Go.wp_at_succ

/-- four blocks: the points, the box, the result -/
structure PA (w : World) (g : Nat) (px py qx qy x0 y0 x1 y1 : Int) : Prop where
  p : w.heap[g]? = some (.cells #[.int .i64 px, .int .i64 py] 24 (0, 0))
  q : w.heap[g + 1]? = some (.cells #[.int .i64 qx, .int .i64 qy] 24 (0, 0))
  b : w.heap[g + 1 + 1]? = some (.cells #[.int .i64 x0, .int .i64 y0, .int .i64 x1, .int .i64 y1] 26 (0, 0))
  r : w.heap[g + 1 + 1 + 1]? = some (.cells #[.int .i64 0, .int .i64 0] 24 (0, 0))
theorem PA.cb {w : World} {g : Nat} {px py qx qy x0 y0 x1 y1 : Int} (x : PA w g px py qx qy x0 y0 x1 y1) : w.cell? ⟨g + 1 + 1, 0, none⟩ = some (.int .i64 x0) ∧ w.cell? ⟨g + 1 + 1, 1, none⟩ = some (.int .i64 y0) ∧ w.cell? ⟨g + 1 + 1, 2, none⟩ = some (.int .i64 x1) ∧ w.cell? ⟨g + 1 + 1, 3, none⟩ = some (.int .i64 y1) := ⟨cell_of_row w _ 0 _ _ _ x.b, cell_of_row w _ 1 _ _ _ x.b, cell_of_row w _ 2 _ _ _ x.b, cell_of_row w _ 3 _ _ _ x.b⟩
theorem PA.made (w : World) (px py qx qy x0 y0 x1 y1 : Int) : PA ((((w.alloc (.cells #[.int .i64 px, .int .i64 py] 24)).alloc (.cells #[.int .i64 qx, .int .i64 qy] 24)).alloc (.cells #[.int .i64 x0, .int .i64 y0, .int .i64 x1, .int .i64 y1] 26)).alloc (.cells #[.int .i64 0, .int .i64 0] 24)) w.heap.size px py qx qy x0 y0 x1 y1 := by
  constructor <;> (repeat (first | ((with_reducible refine alloc_new' _ _ _ ?_); (simp; done)) | ((with_reducible refine (alloc_old _ _ ?_).trans ?_); (focus (simp; try omega)))))
theorem belowA (w : World) (px py qx qy x0 y0 x1 y1 : Int) : Below w.heap.size w ((((w.alloc (.cells #[.int .i64 px, .int .i64 py] 24)).alloc (.cells #[.int .i64 qx, .int .i64 qy] 24)).alloc (.cells #[.int .i64 x0, .int .i64 y0, .int .i64 x1, .int .i64 y1] 26)).alloc (.cells #[.int .i64 0, .int .i64 0] 24)) := (((((Below.refl _ _).alloc (Nat.le_refl _) _).alloc (by simp) _).alloc (by simp; omega) _).alloc (by simp; omega) _)
theorem rr_neg {a c m : Int} (h : c < 0) : (2 * (-(a * m)) + (-c)) / (2 * (-c)) = Cl.rround (Cl.rof a c) m := by
  unfold Cl.rof Cl.rround; rw [if_pos h]; simp only
  have e : 2 * -a * m = 2 * (-(a * m)) := by rw [Int.mul_assoc, Int.neg_mul]
  rw [e]
theorem rr_pos {a c m : Int} (h : ¬ c < 0) : (2 * (a * m) + c) / (2 * c) = Cl.rround (Cl.rof a c) m := by
  unfold Cl.rof Cl.rround; rw [if_neg h]; simp only
  rw [Int.mul_assoc]
theorem rr_bd {a c m : Int} (ha : -4194304 ≤ a ∧ a ≤ 4194304) (hc : -4194304 ≤ c ∧ c ≤ 4194304) (h0 : c ≠ 0) (hm : -4194304 ≤ m ∧ m ≤ 4194304) : -100000000000000 ≤ Cl.rround (Cl.rof a c) m ∧ Cl.rround (Cl.rof a c) m ≤ 100000000000000 := by
  have hs : Cl.Sm (Cl.rof a c) := by unfold Cl.rof Cl.Sm; split <;> simp only <;> omega
  exact rround_bd hs hm
theorem mul_sm {a m : Int} (ha : -4194304 ≤ a ∧ a ≤ 4194304) (hm : -4194304 ≤ m ∧ m ≤ 4194304) : -17592186044416 ≤ a * m ∧ a * m ≤ 17592186044416 := by
  obtain ⟨h1, h2⟩ := mul_bd (a := a) (b := m) 4194304 4194304 ha hm
  exact ⟨by omega, by omega⟩

set_option maxHeartbeats 8000000 in
theorem racross0 (px py qx qy x0 y0 x1 y1 : Int) (w : World) (hp : Cl.nearB px py = true) (hq : Cl.nearB qx qy = true) (hb : Cl.boxB ⟨x0, y0, x1, y1⟩ = true) (hk : Cl.kept ⟨x0, y0, x1, y1⟩ 0 (px, py) ≠ Cl.kept ⟨x0, y0, x1, y1⟩ 0 (qx, qy)) :
    Calls Try.prog 40 #[.agg #[.int .i64 px, .int .i64 py], .agg #[.int .i64 qx, .int .i64 qy], .agg #[.int .i64 x0, .int .i64 y0, .int .i64 x1, .int .i64 y1], .int .i64 0] w
      fun e w' => e = .returned (.agg #[.int .i64 (Cl.acr ⟨x0, y0, x1, y1⟩ 0 (px, py) (qx, qy)).1, .int .i64 (Cl.acr ⟨x0, y0, x1, y1⟩ 0 (px, py) (qx, qy)).2]) ∧ Below w.heap.size w w' := by
  obtain ⟨⟨hp1, hp2⟩, hp3, hp4⟩ := Cl.near_iff.1 hp
  obtain ⟨⟨hq1, hq2⟩, hq3, hq4⟩ := Cl.near_iff.1 hq
  obtain ⟨⟨⟨a1, a2⟩, a3, a4⟩, ⟨⟨b1, b2⟩, b3, b4⟩, -, -⟩ := Cl.box_iff.1 hb
  simp only at a1 a2 a3 a4 b1 b2 b3 b4
  have h0 : qx - px ≠ 0 := by
    intro h
    apply hk
    simp only [Cl.kept]
    rw [show qx = px by omega]
  have EV : Hid (Cl.acr ⟨x0, y0, x1, y1⟩ 0 (px, py) (qx, qy) = (x0, py + Cl.rround (Cl.rof (x0 - px) (qx - px)) (qy - py))) := Lib.hid rfl
  rw [EV.out]
  obtain ⟨v1, v2⟩ := rr_bd (a := (x0 - px)) (c := (qx - px)) (m := (qy - py)) (by omega) (by omega) h0 (by omega)
  obtain ⟨m1, m2⟩ := mul_sm (a := (x0 - px)) (m := (qy - py)) (by omega) (by omega)
  have RN : Hid ((qx - px) < 0 → ∀ u, Calls Try.prog 52 #[.int .i64 (-((x0 - px) * (qy - py))), .int .i64 (-(qx - px))] u fun e w' => e = .returned (.int .i64 (Cl.rround (Cl.rof (x0 - px) (qx - px)) (qy - py))) ∧ u = w') := Lib.hid (fun h u => by
    rw [← rr_neg h]; exact rround_any _ _ u (by omega) (by omega))
  have RP : Hid (¬ (qx - px) < 0 → ∀ u, Calls Try.prog 52 #[.int .i64 ((x0 - px) * (qy - py)), .int .i64 (qx - px)] u fun e w' => e = .returned (.int .i64 (Cl.rround (Cl.rof (x0 - px) (qx - px)) (qy - py))) ∧ u = w') := Lib.hid (fun h u => by
    rw [← rr_pos h]; exact rround_any _ _ u (by omega) (by omega))
  clear EV hk hp hq hb
  generalize Cl.rround (Cl.rof (x0 - px) (qx - px)) (qy - py) = V at *
  have w1 : IntKind.i64.wrap (x0 - px) = (x0 - px) := IntWalk.i64_in _ (by omega)
  have w2 : IntKind.i64.wrap (qx - px) = (qx - px) := IntWalk.i64_in _ (by omega)
  have w3 : IntKind.i64.wrap (qy - py) = (qy - py) := IntWalk.i64_in _ (by omega)
  have w4 : IntKind.i64.wrap (py + V) = py + V := IntWalk.i64_in _ (by omega)
  have w5 : IntKind.i64.wrap (-(qx - px)) = -(qx - px) := IntWalk.i64_in _ (by omega)
  have w6 : IntKind.i64.wrap ((x0 - px) * (qy - py)) = (x0 - px) * (qy - py) := IntWalk.i64_in _ (by omega)
  have w7 : IntKind.i64.wrap (-((x0 - px) * (qy - py))) = -((x0 - px) * (qy - py)) := IntWalk.i64_in _ (by omega)
  have HS : Hid ((qx - px) < 0 ∨ ¬ (qx - px) < 0) := Lib.hid (Classical.em _)
  clear h0 v1 v2 m1 m2 hp1 hp2 hp3 hp4 hq1 hq2 hq3 hq4 a1 a2 a3 a4 b1 b2 b3 b4
  obtain ⟨W, hW⟩ : ∃ W, W = ((((w.alloc (.cells #[.int .i64 px, .int .i64 py] 24)).alloc (.cells #[.int .i64 qx, .int .i64 qy] 24)).alloc (.cells #[.int .i64 x0, .int .i64 y0, .int .i64 x1, .int .i64 y1] 26)).alloc (.cells #[.int .i64 0, .int .i64 0] 24)) := ⟨_, rfl⟩
  have X := PA.made w px py qx qy x0 y0 x1 y1
  have BB := belowA w px py qx qy x0 y0 x1 y1
  rw [← hW] at X BB
  have HB := Lib.hid BB; clear BB
  obtain ⟨g, hg⟩ : ∃ g, w.heap.size = g := ⟨_, rfl⟩
  rw [hg] at X
  obtain ⟨p0, p1⟩ := cell_two X.p
  obtain ⟨q0, q1⟩ := cell_two X.q
  obtain ⟨b0, b1, b2, b3⟩ := X.cb
  obtain ⟨r0, r1⟩ := cell_two X.r
  have fr0 := free_blk X.r 0; have fr1 := free_blk X.r 1
  have np0 : ¬ g = g + 1 + 1 + 1 := by omega
  have np1 : ¬ g + 1 = g + 1 + 1 + 1 := by omega
  have C0 : ∀ w', But (fun k => k = g + 1 + 1 + 1) W w' → w'.cell? ⟨g, 0, none⟩ = some (.int .i64 px) := fun w' h => h.c np0 (by exact p0)
  have C1 : ∀ w', But (fun k => k = g + 1 + 1 + 1) W w' → w'.cell? ⟨g, 1, none⟩ = some (.int .i64 py) := fun w' h => h.c np0 (by exact p1)
  have o0 : But (fun k => k = g + 1 + 1 + 1) W W.drew := But.drew (But.refl _ _)
  clear X np0 np1
  rcases HS.out with hsg | hsg
  · have d1 : decide ((qx - px) < 0) = true := by simp; omega
    have d2 : decide (qx < px) = true := by simp; omega
    have RR := Lib.hid (RN.out hsg)
    clear RN RP HS
    go_enter Try.func40, Try.ntmps40
    go_upto_region 1 with fail
    rw [← hW]
    clear hW
    go_wp2_with fail
    go_region_held3 (fun w' => But (fun k => k = g + 1 + 1 + 1) W w') (first | assumption | ((repeat (first | assumption | exact But.refl _ _ | refine But.drew ?_ | ((refine But.set ?_ ?hp _); (case hp => exact rfl)))); done)) (((with_reducible refine (RR.out _).mono ?_); rintro e w2 ⟨rfl, rfl⟩))
    go_wp2_with fail
    refine bodyPost_ret (v := .agg #[.int .i64 x0, .int .i64 (py + V)]) (by simp [results, Try.results40, go_sem, r0, r1]) rfl ⟨rfl, ?_⟩
    exact HB.out.trans (But.below (X := (fun k => k = g + 1 + 1 + 1)) (B := w.heap.size) (by ((repeat (first | assumption | exact But.refl _ _ | refine But.drew ?_ | ((refine But.set ?_ ?hp _); (case hp => exact rfl)))); done)) HB.out.size (by intro k hk; omega))
  · have d1 : decide ((qx - px) < 0) = false := by simp; omega
    have d2 : decide (qx < px) = false := by simp; omega
    have RR := Lib.hid (RP.out hsg)
    clear RN RP HS
    go_enter Try.func40, Try.ntmps40
    go_upto_region 1 with fail
    rw [← hW]
    clear hW
    go_wp2_with fail
    go_region_held3 (fun w' => But (fun k => k = g + 1 + 1 + 1) W w') (first | assumption | ((repeat (first | assumption | exact But.refl _ _ | refine But.drew ?_ | ((refine But.set ?_ ?hp _); (case hp => exact rfl)))); done)) (((with_reducible refine (RR.out _).mono ?_); rintro e w2 ⟨rfl, rfl⟩))
    go_wp2_with fail
    refine bodyPost_ret (v := .agg #[.int .i64 x0, .int .i64 (py + V)]) (by simp [results, Try.results40, go_sem, r0, r1]) rfl ⟨rfl, ?_⟩
    exact HB.out.trans (But.below (X := (fun k => k = g + 1 + 1 + 1)) (B := w.heap.size) (by ((repeat (first | assumption | exact But.refl _ _ | refine But.drew ?_ | ((refine But.set ?_ ?hp _); (case hp => exact rfl)))); done)) HB.out.size (by intro k hk; omega))
set_option maxHeartbeats 8000000 in
theorem racross1 (px py qx qy x0 y0 x1 y1 : Int) (w : World) (hp : Cl.nearB px py = true) (hq : Cl.nearB qx qy = true) (hb : Cl.boxB ⟨x0, y0, x1, y1⟩ = true) (hk : Cl.kept ⟨x0, y0, x1, y1⟩ 1 (px, py) ≠ Cl.kept ⟨x0, y0, x1, y1⟩ 1 (qx, qy)) :
    Calls Try.prog 40 #[.agg #[.int .i64 px, .int .i64 py], .agg #[.int .i64 qx, .int .i64 qy], .agg #[.int .i64 x0, .int .i64 y0, .int .i64 x1, .int .i64 y1], .int .i64 1] w
      fun e w' => e = .returned (.agg #[.int .i64 (Cl.acr ⟨x0, y0, x1, y1⟩ 1 (px, py) (qx, qy)).1, .int .i64 (Cl.acr ⟨x0, y0, x1, y1⟩ 1 (px, py) (qx, qy)).2]) ∧ Below w.heap.size w w' := by
  obtain ⟨⟨hp1, hp2⟩, hp3, hp4⟩ := Cl.near_iff.1 hp
  obtain ⟨⟨hq1, hq2⟩, hq3, hq4⟩ := Cl.near_iff.1 hq
  obtain ⟨⟨⟨a1, a2⟩, a3, a4⟩, ⟨⟨b1, b2⟩, b3, b4⟩, -, -⟩ := Cl.box_iff.1 hb
  simp only at a1 a2 a3 a4 b1 b2 b3 b4
  have h0 : qx - px ≠ 0 := by
    intro h
    apply hk
    simp only [Cl.kept]
    rw [show qx = px by omega]
  have EV : Hid (Cl.acr ⟨x0, y0, x1, y1⟩ 1 (px, py) (qx, qy) = (x1, py + Cl.rround (Cl.rof (x1 - px) (qx - px)) (qy - py))) := Lib.hid rfl
  rw [EV.out]
  obtain ⟨v1, v2⟩ := rr_bd (a := (x1 - px)) (c := (qx - px)) (m := (qy - py)) (by omega) (by omega) h0 (by omega)
  obtain ⟨m1, m2⟩ := mul_sm (a := (x1 - px)) (m := (qy - py)) (by omega) (by omega)
  have RN : Hid ((qx - px) < 0 → ∀ u, Calls Try.prog 52 #[.int .i64 (-((x1 - px) * (qy - py))), .int .i64 (-(qx - px))] u fun e w' => e = .returned (.int .i64 (Cl.rround (Cl.rof (x1 - px) (qx - px)) (qy - py))) ∧ u = w') := Lib.hid (fun h u => by
    rw [← rr_neg h]; exact rround_any _ _ u (by omega) (by omega))
  have RP : Hid (¬ (qx - px) < 0 → ∀ u, Calls Try.prog 52 #[.int .i64 ((x1 - px) * (qy - py)), .int .i64 (qx - px)] u fun e w' => e = .returned (.int .i64 (Cl.rround (Cl.rof (x1 - px) (qx - px)) (qy - py))) ∧ u = w') := Lib.hid (fun h u => by
    rw [← rr_pos h]; exact rround_any _ _ u (by omega) (by omega))
  clear EV hk hp hq hb
  generalize Cl.rround (Cl.rof (x1 - px) (qx - px)) (qy - py) = V at *
  have w1 : IntKind.i64.wrap (x1 - px) = (x1 - px) := IntWalk.i64_in _ (by omega)
  have w2 : IntKind.i64.wrap (qx - px) = (qx - px) := IntWalk.i64_in _ (by omega)
  have w3 : IntKind.i64.wrap (qy - py) = (qy - py) := IntWalk.i64_in _ (by omega)
  have w4 : IntKind.i64.wrap (py + V) = py + V := IntWalk.i64_in _ (by omega)
  have w5 : IntKind.i64.wrap (-(qx - px)) = -(qx - px) := IntWalk.i64_in _ (by omega)
  have w6 : IntKind.i64.wrap ((x1 - px) * (qy - py)) = (x1 - px) * (qy - py) := IntWalk.i64_in _ (by omega)
  have w7 : IntKind.i64.wrap (-((x1 - px) * (qy - py))) = -((x1 - px) * (qy - py)) := IntWalk.i64_in _ (by omega)
  have HS : Hid ((qx - px) < 0 ∨ ¬ (qx - px) < 0) := Lib.hid (Classical.em _)
  clear h0 v1 v2 m1 m2 hp1 hp2 hp3 hp4 hq1 hq2 hq3 hq4 a1 a2 a3 a4 b1 b2 b3 b4
  obtain ⟨W, hW⟩ : ∃ W, W = ((((w.alloc (.cells #[.int .i64 px, .int .i64 py] 24)).alloc (.cells #[.int .i64 qx, .int .i64 qy] 24)).alloc (.cells #[.int .i64 x0, .int .i64 y0, .int .i64 x1, .int .i64 y1] 26)).alloc (.cells #[.int .i64 0, .int .i64 0] 24)) := ⟨_, rfl⟩
  have X := PA.made w px py qx qy x0 y0 x1 y1
  have BB := belowA w px py qx qy x0 y0 x1 y1
  rw [← hW] at X BB
  have HB := Lib.hid BB; clear BB
  obtain ⟨g, hg⟩ : ∃ g, w.heap.size = g := ⟨_, rfl⟩
  rw [hg] at X
  obtain ⟨p0, p1⟩ := cell_two X.p
  obtain ⟨q0, q1⟩ := cell_two X.q
  obtain ⟨b0, b1, b2, b3⟩ := X.cb
  obtain ⟨r0, r1⟩ := cell_two X.r
  have fr0 := free_blk X.r 0; have fr1 := free_blk X.r 1
  have np0 : ¬ g = g + 1 + 1 + 1 := by omega
  have np1 : ¬ g + 1 = g + 1 + 1 + 1 := by omega
  have C0 : ∀ w', But (fun k => k = g + 1 + 1 + 1) W w' → w'.cell? ⟨g, 0, none⟩ = some (.int .i64 px) := fun w' h => h.c np0 (by exact p0)
  have C1 : ∀ w', But (fun k => k = g + 1 + 1 + 1) W w' → w'.cell? ⟨g, 1, none⟩ = some (.int .i64 py) := fun w' h => h.c np0 (by exact p1)
  have o0 : But (fun k => k = g + 1 + 1 + 1) W W.drew := But.drew (But.refl _ _)
  clear X np0 np1
  rcases HS.out with hsg | hsg
  · have d1 : decide ((qx - px) < 0) = true := by simp; omega
    have d2 : decide (qx < px) = true := by simp; omega
    have RR := Lib.hid (RN.out hsg)
    clear RN RP HS
    go_enter Try.func40, Try.ntmps40
    go_upto_region 1 with fail
    rw [← hW]
    clear hW
    go_wp2_with fail
    go_region_held3 (fun w' => But (fun k => k = g + 1 + 1 + 1) W w') (first | assumption | ((repeat (first | assumption | exact But.refl _ _ | refine But.drew ?_ | ((refine But.set ?_ ?hp _); (case hp => exact rfl)))); done)) (((with_reducible refine (RR.out _).mono ?_); rintro e w2 ⟨rfl, rfl⟩))
    go_wp2_with fail
    refine bodyPost_ret (v := .agg #[.int .i64 x1, .int .i64 (py + V)]) (by simp [results, Try.results40, go_sem, r0, r1]) rfl ⟨rfl, ?_⟩
    exact HB.out.trans (But.below (X := (fun k => k = g + 1 + 1 + 1)) (B := w.heap.size) (by ((repeat (first | assumption | exact But.refl _ _ | refine But.drew ?_ | ((refine But.set ?_ ?hp _); (case hp => exact rfl)))); done)) HB.out.size (by intro k hk; omega))
  · have d1 : decide ((qx - px) < 0) = false := by simp; omega
    have d2 : decide (qx < px) = false := by simp; omega
    have RR := Lib.hid (RP.out hsg)
    clear RN RP HS
    go_enter Try.func40, Try.ntmps40
    go_upto_region 1 with fail
    rw [← hW]
    clear hW
    go_wp2_with fail
    go_region_held3 (fun w' => But (fun k => k = g + 1 + 1 + 1) W w') (first | assumption | ((repeat (first | assumption | exact But.refl _ _ | refine But.drew ?_ | ((refine But.set ?_ ?hp _); (case hp => exact rfl)))); done)) (((with_reducible refine (RR.out _).mono ?_); rintro e w2 ⟨rfl, rfl⟩))
    go_wp2_with fail
    refine bodyPost_ret (v := .agg #[.int .i64 x1, .int .i64 (py + V)]) (by simp [results, Try.results40, go_sem, r0, r1]) rfl ⟨rfl, ?_⟩
    exact HB.out.trans (But.below (X := (fun k => k = g + 1 + 1 + 1)) (B := w.heap.size) (by ((repeat (first | assumption | exact But.refl _ _ | refine But.drew ?_ | ((refine But.set ?_ ?hp _); (case hp => exact rfl)))); done)) HB.out.size (by intro k hk; omega))
set_option maxHeartbeats 8000000 in
theorem racross2 (px py qx qy x0 y0 x1 y1 : Int) (w : World) (hp : Cl.nearB px py = true) (hq : Cl.nearB qx qy = true) (hb : Cl.boxB ⟨x0, y0, x1, y1⟩ = true) (hk : Cl.kept ⟨x0, y0, x1, y1⟩ 2 (px, py) ≠ Cl.kept ⟨x0, y0, x1, y1⟩ 2 (qx, qy)) :
    Calls Try.prog 40 #[.agg #[.int .i64 px, .int .i64 py], .agg #[.int .i64 qx, .int .i64 qy], .agg #[.int .i64 x0, .int .i64 y0, .int .i64 x1, .int .i64 y1], .int .i64 2] w
      fun e w' => e = .returned (.agg #[.int .i64 (Cl.acr ⟨x0, y0, x1, y1⟩ 2 (px, py) (qx, qy)).1, .int .i64 (Cl.acr ⟨x0, y0, x1, y1⟩ 2 (px, py) (qx, qy)).2]) ∧ Below w.heap.size w w' := by
  obtain ⟨⟨hp1, hp2⟩, hp3, hp4⟩ := Cl.near_iff.1 hp
  obtain ⟨⟨hq1, hq2⟩, hq3, hq4⟩ := Cl.near_iff.1 hq
  obtain ⟨⟨⟨a1, a2⟩, a3, a4⟩, ⟨⟨b1, b2⟩, b3, b4⟩, -, -⟩ := Cl.box_iff.1 hb
  simp only at a1 a2 a3 a4 b1 b2 b3 b4
  have h0 : qy - py ≠ 0 := by
    intro h
    apply hk
    simp only [Cl.kept]
    rw [show qy = py by omega]
  have EV : Hid (Cl.acr ⟨x0, y0, x1, y1⟩ 2 (px, py) (qx, qy) = (px + Cl.rround (Cl.rof (y0 - py) (qy - py)) (qx - px), y0)) := Lib.hid rfl
  rw [EV.out]
  obtain ⟨v1, v2⟩ := rr_bd (a := (y0 - py)) (c := (qy - py)) (m := (qx - px)) (by omega) (by omega) h0 (by omega)
  obtain ⟨m1, m2⟩ := mul_sm (a := (y0 - py)) (m := (qx - px)) (by omega) (by omega)
  have RN : Hid ((qy - py) < 0 → ∀ u, Calls Try.prog 52 #[.int .i64 (-((y0 - py) * (qx - px))), .int .i64 (-(qy - py))] u fun e w' => e = .returned (.int .i64 (Cl.rround (Cl.rof (y0 - py) (qy - py)) (qx - px))) ∧ u = w') := Lib.hid (fun h u => by
    rw [← rr_neg h]; exact rround_any _ _ u (by omega) (by omega))
  have RP : Hid (¬ (qy - py) < 0 → ∀ u, Calls Try.prog 52 #[.int .i64 ((y0 - py) * (qx - px)), .int .i64 (qy - py)] u fun e w' => e = .returned (.int .i64 (Cl.rround (Cl.rof (y0 - py) (qy - py)) (qx - px))) ∧ u = w') := Lib.hid (fun h u => by
    rw [← rr_pos h]; exact rround_any _ _ u (by omega) (by omega))
  clear EV hk hp hq hb
  generalize Cl.rround (Cl.rof (y0 - py) (qy - py)) (qx - px) = V at *
  have w1 : IntKind.i64.wrap (y0 - py) = (y0 - py) := IntWalk.i64_in _ (by omega)
  have w2 : IntKind.i64.wrap (qy - py) = (qy - py) := IntWalk.i64_in _ (by omega)
  have w3 : IntKind.i64.wrap (qx - px) = (qx - px) := IntWalk.i64_in _ (by omega)
  have w4 : IntKind.i64.wrap (px + V) = px + V := IntWalk.i64_in _ (by omega)
  have w5 : IntKind.i64.wrap (-(qy - py)) = -(qy - py) := IntWalk.i64_in _ (by omega)
  have w6 : IntKind.i64.wrap ((y0 - py) * (qx - px)) = (y0 - py) * (qx - px) := IntWalk.i64_in _ (by omega)
  have w7 : IntKind.i64.wrap (-((y0 - py) * (qx - px))) = -((y0 - py) * (qx - px)) := IntWalk.i64_in _ (by omega)
  have HS : Hid ((qy - py) < 0 ∨ ¬ (qy - py) < 0) := Lib.hid (Classical.em _)
  clear h0 v1 v2 m1 m2 hp1 hp2 hp3 hp4 hq1 hq2 hq3 hq4 a1 a2 a3 a4 b1 b2 b3 b4
  obtain ⟨W, hW⟩ : ∃ W, W = ((((w.alloc (.cells #[.int .i64 px, .int .i64 py] 24)).alloc (.cells #[.int .i64 qx, .int .i64 qy] 24)).alloc (.cells #[.int .i64 x0, .int .i64 y0, .int .i64 x1, .int .i64 y1] 26)).alloc (.cells #[.int .i64 0, .int .i64 0] 24)) := ⟨_, rfl⟩
  have X := PA.made w px py qx qy x0 y0 x1 y1
  have BB := belowA w px py qx qy x0 y0 x1 y1
  rw [← hW] at X BB
  have HB := Lib.hid BB; clear BB
  obtain ⟨g, hg⟩ : ∃ g, w.heap.size = g := ⟨_, rfl⟩
  rw [hg] at X
  obtain ⟨p0, p1⟩ := cell_two X.p
  obtain ⟨q0, q1⟩ := cell_two X.q
  obtain ⟨b0, b1, b2, b3⟩ := X.cb
  obtain ⟨r0, r1⟩ := cell_two X.r
  have fr0 := free_blk X.r 0; have fr1 := free_blk X.r 1
  have np0 : ¬ g = g + 1 + 1 + 1 := by omega
  have np1 : ¬ g + 1 = g + 1 + 1 + 1 := by omega
  have C0 : ∀ w', But (fun k => k = g + 1 + 1 + 1) W w' → w'.cell? ⟨g, 0, none⟩ = some (.int .i64 px) := fun w' h => h.c np0 (by exact p0)
  have C1 : ∀ w', But (fun k => k = g + 1 + 1 + 1) W w' → w'.cell? ⟨g, 1, none⟩ = some (.int .i64 py) := fun w' h => h.c np0 (by exact p1)
  have o0 : But (fun k => k = g + 1 + 1 + 1) W W.drew := But.drew (But.refl _ _)
  clear X np0 np1
  rcases HS.out with hsg | hsg
  · have d1 : decide ((qy - py) < 0) = true := by simp; omega
    have d2 : decide (qy < py) = true := by simp; omega
    have RR := Lib.hid (RN.out hsg)
    clear RN RP HS
    go_enter Try.func40, Try.ntmps40
    go_upto_region 1 with fail
    rw [← hW]
    clear hW
    go_wp2_with fail
    go_region_held3 (fun w' => But (fun k => k = g + 1 + 1 + 1) W w') (first | assumption | ((repeat (first | assumption | exact But.refl _ _ | refine But.drew ?_ | ((refine But.set ?_ ?hp _); (case hp => exact rfl)))); done)) (((with_reducible refine (RR.out _).mono ?_); rintro e w2 ⟨rfl, rfl⟩))
    go_wp2_with fail
    refine bodyPost_ret (v := .agg #[.int .i64 (px + V), .int .i64 y0]) (by simp [results, Try.results40, go_sem, r0, r1]) rfl ⟨rfl, ?_⟩
    exact HB.out.trans (But.below (X := (fun k => k = g + 1 + 1 + 1)) (B := w.heap.size) (by ((repeat (first | assumption | exact But.refl _ _ | refine But.drew ?_ | ((refine But.set ?_ ?hp _); (case hp => exact rfl)))); done)) HB.out.size (by intro k hk; omega))
  · have d1 : decide ((qy - py) < 0) = false := by simp; omega
    have d2 : decide (qy < py) = false := by simp; omega
    have RR := Lib.hid (RP.out hsg)
    clear RN RP HS
    go_enter Try.func40, Try.ntmps40
    go_upto_region 1 with fail
    rw [← hW]
    clear hW
    go_wp2_with fail
    go_region_held3 (fun w' => But (fun k => k = g + 1 + 1 + 1) W w') (first | assumption | ((repeat (first | assumption | exact But.refl _ _ | refine But.drew ?_ | ((refine But.set ?_ ?hp _); (case hp => exact rfl)))); done)) (((with_reducible refine (RR.out _).mono ?_); rintro e w2 ⟨rfl, rfl⟩))
    go_wp2_with fail
    refine bodyPost_ret (v := .agg #[.int .i64 (px + V), .int .i64 y0]) (by simp [results, Try.results40, go_sem, r0, r1]) rfl ⟨rfl, ?_⟩
    exact HB.out.trans (But.below (X := (fun k => k = g + 1 + 1 + 1)) (B := w.heap.size) (by ((repeat (first | assumption | exact But.refl _ _ | refine But.drew ?_ | ((refine But.set ?_ ?hp _); (case hp => exact rfl)))); done)) HB.out.size (by intro k hk; omega))
set_option maxHeartbeats 8000000 in
theorem racross3 (px py qx qy x0 y0 x1 y1 : Int) (w : World) (hp : Cl.nearB px py = true) (hq : Cl.nearB qx qy = true) (hb : Cl.boxB ⟨x0, y0, x1, y1⟩ = true) (hk : Cl.kept ⟨x0, y0, x1, y1⟩ 3 (px, py) ≠ Cl.kept ⟨x0, y0, x1, y1⟩ 3 (qx, qy)) :
    Calls Try.prog 40 #[.agg #[.int .i64 px, .int .i64 py], .agg #[.int .i64 qx, .int .i64 qy], .agg #[.int .i64 x0, .int .i64 y0, .int .i64 x1, .int .i64 y1], .int .i64 3] w
      fun e w' => e = .returned (.agg #[.int .i64 (Cl.acr ⟨x0, y0, x1, y1⟩ 3 (px, py) (qx, qy)).1, .int .i64 (Cl.acr ⟨x0, y0, x1, y1⟩ 3 (px, py) (qx, qy)).2]) ∧ Below w.heap.size w w' := by
  obtain ⟨⟨hp1, hp2⟩, hp3, hp4⟩ := Cl.near_iff.1 hp
  obtain ⟨⟨hq1, hq2⟩, hq3, hq4⟩ := Cl.near_iff.1 hq
  obtain ⟨⟨⟨a1, a2⟩, a3, a4⟩, ⟨⟨b1, b2⟩, b3, b4⟩, -, -⟩ := Cl.box_iff.1 hb
  simp only at a1 a2 a3 a4 b1 b2 b3 b4
  have h0 : qy - py ≠ 0 := by
    intro h
    apply hk
    simp only [Cl.kept]
    rw [show qy = py by omega]
  have EV : Hid (Cl.acr ⟨x0, y0, x1, y1⟩ 3 (px, py) (qx, qy) = (px + Cl.rround (Cl.rof (y1 - py) (qy - py)) (qx - px), y1)) := Lib.hid rfl
  rw [EV.out]
  obtain ⟨v1, v2⟩ := rr_bd (a := (y1 - py)) (c := (qy - py)) (m := (qx - px)) (by omega) (by omega) h0 (by omega)
  obtain ⟨m1, m2⟩ := mul_sm (a := (y1 - py)) (m := (qx - px)) (by omega) (by omega)
  have RN : Hid ((qy - py) < 0 → ∀ u, Calls Try.prog 52 #[.int .i64 (-((y1 - py) * (qx - px))), .int .i64 (-(qy - py))] u fun e w' => e = .returned (.int .i64 (Cl.rround (Cl.rof (y1 - py) (qy - py)) (qx - px))) ∧ u = w') := Lib.hid (fun h u => by
    rw [← rr_neg h]; exact rround_any _ _ u (by omega) (by omega))
  have RP : Hid (¬ (qy - py) < 0 → ∀ u, Calls Try.prog 52 #[.int .i64 ((y1 - py) * (qx - px)), .int .i64 (qy - py)] u fun e w' => e = .returned (.int .i64 (Cl.rround (Cl.rof (y1 - py) (qy - py)) (qx - px))) ∧ u = w') := Lib.hid (fun h u => by
    rw [← rr_pos h]; exact rround_any _ _ u (by omega) (by omega))
  clear EV hk hp hq hb
  generalize Cl.rround (Cl.rof (y1 - py) (qy - py)) (qx - px) = V at *
  have w1 : IntKind.i64.wrap (y1 - py) = (y1 - py) := IntWalk.i64_in _ (by omega)
  have w2 : IntKind.i64.wrap (qy - py) = (qy - py) := IntWalk.i64_in _ (by omega)
  have w3 : IntKind.i64.wrap (qx - px) = (qx - px) := IntWalk.i64_in _ (by omega)
  have w4 : IntKind.i64.wrap (px + V) = px + V := IntWalk.i64_in _ (by omega)
  have w5 : IntKind.i64.wrap (-(qy - py)) = -(qy - py) := IntWalk.i64_in _ (by omega)
  have w6 : IntKind.i64.wrap ((y1 - py) * (qx - px)) = (y1 - py) * (qx - px) := IntWalk.i64_in _ (by omega)
  have w7 : IntKind.i64.wrap (-((y1 - py) * (qx - px))) = -((y1 - py) * (qx - px)) := IntWalk.i64_in _ (by omega)
  have HS : Hid ((qy - py) < 0 ∨ ¬ (qy - py) < 0) := Lib.hid (Classical.em _)
  clear h0 v1 v2 m1 m2 hp1 hp2 hp3 hp4 hq1 hq2 hq3 hq4 a1 a2 a3 a4 b1 b2 b3 b4
  obtain ⟨W, hW⟩ : ∃ W, W = ((((w.alloc (.cells #[.int .i64 px, .int .i64 py] 24)).alloc (.cells #[.int .i64 qx, .int .i64 qy] 24)).alloc (.cells #[.int .i64 x0, .int .i64 y0, .int .i64 x1, .int .i64 y1] 26)).alloc (.cells #[.int .i64 0, .int .i64 0] 24)) := ⟨_, rfl⟩
  have X := PA.made w px py qx qy x0 y0 x1 y1
  have BB := belowA w px py qx qy x0 y0 x1 y1
  rw [← hW] at X BB
  have HB := Lib.hid BB; clear BB
  obtain ⟨g, hg⟩ : ∃ g, w.heap.size = g := ⟨_, rfl⟩
  rw [hg] at X
  obtain ⟨p0, p1⟩ := cell_two X.p
  obtain ⟨q0, q1⟩ := cell_two X.q
  obtain ⟨b0, b1, b2, b3⟩ := X.cb
  obtain ⟨r0, r1⟩ := cell_two X.r
  have fr0 := free_blk X.r 0; have fr1 := free_blk X.r 1
  have np0 : ¬ g = g + 1 + 1 + 1 := by omega
  have np1 : ¬ g + 1 = g + 1 + 1 + 1 := by omega
  have C0 : ∀ w', But (fun k => k = g + 1 + 1 + 1) W w' → w'.cell? ⟨g, 0, none⟩ = some (.int .i64 px) := fun w' h => h.c np0 (by exact p0)
  have C1 : ∀ w', But (fun k => k = g + 1 + 1 + 1) W w' → w'.cell? ⟨g, 1, none⟩ = some (.int .i64 py) := fun w' h => h.c np0 (by exact p1)
  have o0 : But (fun k => k = g + 1 + 1 + 1) W W.drew := But.drew (But.refl _ _)
  clear X np0 np1
  rcases HS.out with hsg | hsg
  · have d1 : decide ((qy - py) < 0) = true := by simp; omega
    have d2 : decide (qy < py) = true := by simp; omega
    have RR := Lib.hid (RN.out hsg)
    clear RN RP HS
    go_enter Try.func40, Try.ntmps40
    go_upto_region 1 with fail
    rw [← hW]
    clear hW
    go_wp2_with fail
    go_region_held3 (fun w' => But (fun k => k = g + 1 + 1 + 1) W w') (first | assumption | ((repeat (first | assumption | exact But.refl _ _ | refine But.drew ?_ | ((refine But.set ?_ ?hp _); (case hp => exact rfl)))); done)) (((with_reducible refine (RR.out _).mono ?_); rintro e w2 ⟨rfl, rfl⟩))
    go_wp2_with fail
    refine bodyPost_ret (v := .agg #[.int .i64 (px + V), .int .i64 y1]) (by simp [results, Try.results40, go_sem, r0, r1]) rfl ⟨rfl, ?_⟩
    exact HB.out.trans (But.below (X := (fun k => k = g + 1 + 1 + 1)) (B := w.heap.size) (by ((repeat (first | assumption | exact But.refl _ _ | refine But.drew ?_ | ((refine But.set ?_ ?hp _); (case hp => exact rfl)))); done)) HB.out.size (by intro k hk; omega))
  · have d1 : decide ((qy - py) < 0) = false := by simp; omega
    have d2 : decide (qy < py) = false := by simp; omega
    have RR := Lib.hid (RP.out hsg)
    clear RN RP HS
    go_enter Try.func40, Try.ntmps40
    go_upto_region 1 with fail
    rw [← hW]
    clear hW
    go_wp2_with fail
    go_region_held3 (fun w' => But (fun k => k = g + 1 + 1 + 1) W w') (first | assumption | ((repeat (first | assumption | exact But.refl _ _ | refine But.drew ?_ | ((refine But.set ?_ ?hp _); (case hp => exact rfl)))); done)) (((with_reducible refine (RR.out _).mono ?_); rintro e w2 ⟨rfl, rfl⟩))
    go_wp2_with fail
    refine bodyPost_ret (v := .agg #[.int .i64 (px + V), .int .i64 y1]) (by simp [results, Try.results40, go_sem, r0, r1]) rfl ⟨rfl, ?_⟩
    exact HB.out.trans (But.below (X := (fun k => k = g + 1 + 1 + 1)) (B := w.heap.size) (by ((repeat (first | assumption | exact But.refl _ _ | refine But.drew ?_ | ((refine But.set ?_ ?hp _); (case hp => exact rfl)))); done)) HB.out.size (by intro k hk; omega))
theorem racross_any (k : Nat) (hk4 : k < 4) (px py qx qy x0 y0 x1 y1 : Int) (w : World) (hp : Cl.nearB px py = true) (hq : Cl.nearB qx qy = true) (hb : Cl.boxB ⟨x0, y0, x1, y1⟩ = true) (hk : Cl.kept ⟨x0, y0, x1, y1⟩ k (px, py) ≠ Cl.kept ⟨x0, y0, x1, y1⟩ k (qx, qy)) :
    Calls Try.prog 40 #[.agg #[.int .i64 px, .int .i64 py], .agg #[.int .i64 qx, .int .i64 qy], .agg #[.int .i64 x0, .int .i64 y0, .int .i64 x1, .int .i64 y1], .int .i64 (k : Int)] w
      fun e w' => e = .returned (.agg #[.int .i64 (Cl.acr ⟨x0, y0, x1, y1⟩ k (px, py) (qx, qy)).1, .int .i64 (Cl.acr ⟨x0, y0, x1, y1⟩ k (px, py) (qx, qy)).2]) ∧ Below w.heap.size w w' := by
  match k, hk4 with
  | 0, _ => exact racross0 px py qx qy x0 y0 x1 y1 w hp hq hb hk
  | 1, _ => exact racross1 px py qx qy x0 y0 x1 y1 w hp hq hb hk
  | 2, _ => exact racross2 px py qx qy x0 y0 x1 y1 w hp hq hb hk
  | 3, _ => exact racross3 px py qx qy x0 y0 x1 y1 w hp hq hb hk
theorem rkept_any (k : Nat) (hk4 : k < 4) (x y x0 y0 x1 y1 : Int) (w : World) :
    Calls Try.prog 39 #[.agg #[.int .i64 x, .int .i64 y], .agg #[.int .i64 x0, .int .i64 y0, .int .i64 x1, .int .i64 y1], .int .i64 (k : Int)] w fun e w' => e = .returned (.bool (Cl.kept ⟨x0, y0, x1, y1⟩ k (x, y))) ∧ Below w.heap.size w w' := by
  match k, hk4 with
  | 0, _ => exact rkept0 x y x0 y0 x1 y1 w
  | 1, _ => exact rkept1 x y x0 y0 x1 y1 w
  | 2, _ => exact rkept2 x y x0 y0 x1 y1 w
  | 3, _ => exact rkept3 x y x0 y0 x1 y1 w
end Go.Proofs.Ytdiknijbjmhacaa
