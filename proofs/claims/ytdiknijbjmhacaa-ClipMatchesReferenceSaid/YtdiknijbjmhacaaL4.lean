/- WALKS: the reference's piece. -/
import Derived.Test.YtdiknijbjmhacaaL3
set_option linter.unusedSimpArgs false
set_option linter.unusedVariables false
namespace Go.Proofs.Ytdiknijbjmhacaa
open Go.RowKit
attribute [local go_sem ↓] Go.wp_at_zero Go.wp_at_succ

def refA (p q : Cl.Pt) (b : Cl.Bx) : Cl.Pt := if Cl.rok p.1 (q.1 - p.1) b.x0 b.x1 (Cl.st1 p q b) then Cl.pcA p q b else p
def refB (p q : Cl.Pt) (b : Cl.Bx) : Cl.Pt := if Cl.rok p.1 (q.1 - p.1) b.x0 b.x1 (Cl.st1 p q b) then Cl.pcB p q b else q
theorem ref_yes {p q : Cl.Pt} {b : Cl.Bx} (h : Cl.pcOk p q b = true) : refA p q b = Cl.pcA p q b ∧ refB p q b = Cl.pcB p q b := by
  rw [← Cl.ref_ok] at h
  unfold Cl.refOk at h
  rw [Bool.and_eq_true] at h
  unfold refA refB
  rw [h.1]; exact ⟨rfl, rfl⟩
/-- five blocks: the points, the box, the two results -/
structure PQ (w : World) (g : Nat) (px py qx qy x0 y0 x1 y1 : Int) : Prop where
  p : w.heap[g]? = some (.cells #[.int .i64 px, .int .i64 py] 24 (0, 0))
  q : w.heap[g + 1]? = some (.cells #[.int .i64 qx, .int .i64 qy] 24 (0, 0))
  b : w.heap[g + 1 + 1]? = some (.cells #[.int .i64 x0, .int .i64 y0, .int .i64 x1, .int .i64 y1] 26 (0, 0))
  r : w.heap[g + 1 + 1 + 1]? = some (.cells #[.int .i64 0, .int .i64 0] 24 (0, 0))
  s : w.heap[g + 1 + 1 + 1 + 1]? = some (.cells #[.int .i64 0, .int .i64 0] 24 (0, 0))
section
variable {w w' : World} {g : Nat} {px py qx qy x0 y0 x1 y1 : Int}
theorem PQ.below (x : PQ w g px py qx qy x0 y0 x1 y1) (hb : Below w.heap.size w w') : PQ w' g px py qx qy x0 y0 x1 y1 := ⟨(hb.block _ (lt_of_block x.p)).trans x.p, (hb.block _ (lt_of_block x.q)).trans x.q, (hb.block _ (lt_of_block x.b)).trans x.b, (hb.block _ (lt_of_block x.r)).trans x.r, (hb.block _ (lt_of_block x.s)).trans x.s⟩
theorem PQ.cb (x : PQ w g px py qx qy x0 y0 x1 y1) : w.cell? ⟨g + 1 + 1, 0, none⟩ = some (.int .i64 x0) ∧ w.cell? ⟨g + 1 + 1, 1, none⟩ = some (.int .i64 y0) ∧ w.cell? ⟨g + 1 + 1, 2, none⟩ = some (.int .i64 x1) ∧ w.cell? ⟨g + 1 + 1, 3, none⟩ = some (.int .i64 y1) := ⟨cell_of_row w _ 0 _ _ _ x.b, cell_of_row w _ 1 _ _ _ x.b, cell_of_row w _ 2 _ _ _ x.b, cell_of_row w _ 3 _ _ _ x.b⟩
end
theorem PQ.made (w : World) (px py qx qy x0 y0 x1 y1 : Int) : PQ (((((w.alloc (.cells #[.int .i64 px, .int .i64 py] 24)).alloc (.cells #[.int .i64 qx, .int .i64 qy] 24)).alloc (.cells #[.int .i64 x0, .int .i64 y0, .int .i64 x1, .int .i64 y1] 26)).alloc (.cells #[.int .i64 0, .int .i64 0] 24)).alloc (.cells #[.int .i64 0, .int .i64 0] 24)) w.heap.size px py qx qy x0 y0 x1 y1 := by
  constructor <;> (repeat (first | ((with_reducible refine alloc_new' _ _ _ ?_); (simp; done)) | ((with_reducible refine (alloc_old _ _ ?_).trans ?_); (focus (simp; try omega)))))
theorem below5 (w : World) (px py qx qy x0 y0 x1 y1 : Int) : Below w.heap.size w (((((w.alloc (.cells #[.int .i64 px, .int .i64 py] 24)).alloc (.cells #[.int .i64 qx, .int .i64 qy] 24)).alloc (.cells #[.int .i64 x0, .int .i64 y0, .int .i64 x1, .int .i64 y1] 26)).alloc (.cells #[.int .i64 0, .int .i64 0] 24)).alloc (.cells #[.int .i64 0, .int .i64 0] 24)) := ((((((Below.refl _ _).alloc (Nat.le_refl _) _).alloc (by simp) _).alloc (by simp; omega) _).alloc (by simp; omega) _).alloc (by simp; omega) _)

set_option maxHeartbeats 8000000 in
theorem rpiece_any (px py qx qy x0 y0 x1 y1 : Int) (w : World) (hp : Cl.nearB px py = true) (hq : Cl.nearB qx qy = true) (hb : Cl.boxB ⟨x0, y0, x1, y1⟩ = true) :
    Calls Try.prog 23 #[.agg #[.int .i64 px, .int .i64 py], .agg #[.int .i64 qx, .int .i64 qy], .agg #[.int .i64 x0, .int .i64 y0, .int .i64 x1, .int .i64 y1]] w
      fun e w' => e = .returned (.tuple #[.agg #[.int .i64 (refA (px, py) (qx, qy) ⟨x0, y0, x1, y1⟩).1, .int .i64 (refA (px, py) (qx, qy) ⟨x0, y0, x1, y1⟩).2], .agg #[.int .i64 (refB (px, py) (qx, qy) ⟨x0, y0, x1, y1⟩).1, .int .i64 (refB (px, py) (qx, qy) ⟨x0, y0, x1, y1⟩).2], .bool (Cl.pcOk (px, py) (qx, qy) ⟨x0, y0, x1, y1⟩)]) ∧ Below w.heap.size w w' := by
  obtain ⟨⟨hp1, hp2⟩, hp3, hp4⟩ := Cl.near_iff.1 hp
  obtain ⟨⟨hq1, hq2⟩, hq3, hq4⟩ := Cl.near_iff.1 hq
  obtain ⟨⟨⟨a1, a2⟩, a3, a4⟩, ⟨⟨b1, b2⟩, b3, b4⟩, -, -⟩ := Cl.box_iff.1 hb
  simp only at a1 a2 a3 a4 b1 b2 b3 b4
  have BO1 := Lib.hid (fun u => rbound_any px (qx - px) x0 x1 Cl.st0 u Cl.sm0 ⟨hp1, hp2⟩ ⟨a1, a2⟩ ⟨b1, b2⟩ (by omega))
  have S1 := Cl.st1_sm (p := (px, py)) (q := (qx, qy)) hp hq hb
  have BO2 := Lib.hid (fun u => rbound_any py (qy - py) y0 y1 (Cl.st1 (px, py) (qx, qy) ⟨x0, y0, x1, y1⟩) u S1 ⟨hp3, hp4⟩ ⟨a3, a4⟩ ⟨b3, b4⟩ (by omega))
  have S2 := Cl.st2_sm (p := (px, py)) (q := (qx, qy)) hp hq hb
  have AT1 := Lib.hid (fun u => rat_any px py qx qy _ _ u S2.low hp hq)
  have AT2 := Lib.hid (fun u => rat_any px py qx qy _ _ u S2.high hp hq)
  have e1 : Cl.bnd px (qx - px) x0 x1 Cl.st0 = Cl.st1 (px, py) (qx, qy) ⟨x0, y0, x1, y1⟩ := rfl
  have e2 : Cl.bnd py (qy - py) y0 y1 (Cl.st1 (px, py) (qx, qy) ⟨x0, y0, x1, y1⟩) = Cl.st2 (px, py) (qx, qy) ⟨x0, y0, x1, y1⟩ := rfl
  rw [e1] at BO1
  rw [e2] at BO2
  have OK : Cl.pcOk (px, py) (qx, qy) ⟨x0, y0, x1, y1⟩ = (Cl.rok px (qx - px) x0 x1 (Cl.st1 (px, py) (qx, qy) ⟨x0, y0, x1, y1⟩) && Cl.rok py (qy - py) y0 y1 (Cl.st2 (px, py) (qx, qy) ⟨x0, y0, x1, y1⟩)) := (Cl.ref_ok _ _ _).symm
  have EA : refA (px, py) (qx, qy) ⟨x0, y0, x1, y1⟩ = if Cl.rok px (qx - px) x0 x1 (Cl.st1 (px, py) (qx, qy) ⟨x0, y0, x1, y1⟩) then (px + Cl.rround (Cl.st2 (px, py) (qx, qy) ⟨x0, y0, x1, y1⟩).low (qx - px), py + Cl.rround (Cl.st2 (px, py) (qx, qy) ⟨x0, y0, x1, y1⟩).low (qy - py)) else (px, py) := rfl
  have EB : refB (px, py) (qx, qy) ⟨x0, y0, x1, y1⟩ = if Cl.rok px (qx - px) x0 x1 (Cl.st1 (px, py) (qx, qy) ⟨x0, y0, x1, y1⟩) then (px + Cl.rround (Cl.st2 (px, py) (qx, qy) ⟨x0, y0, x1, y1⟩).high (qx - px), py + Cl.rround (Cl.st2 (px, py) (qx, qy) ⟨x0, y0, x1, y1⟩).high (qy - py)) else (qx, qy) := rfl
  rw [OK, EA, EB]
  clear OK EA EB e1 e2 S1 S2 hp hq hb
  generalize Cl.rok px (qx - px) x0 x1 (Cl.st1 (px, py) (qx, qy) ⟨x0, y0, x1, y1⟩) = ok1 at *
  generalize Cl.rok py (qy - py) y0 y1 (Cl.st2 (px, py) (qx, qy) ⟨x0, y0, x1, y1⟩) = ok2 at *
  generalize Cl.st1 (px, py) (qx, qy) ⟨x0, y0, x1, y1⟩ = s1 at *
  generalize Cl.st2 (px, py) (qx, qy) ⟨x0, y0, x1, y1⟩ = s2 at *
  obtain ⟨⟨l1n, l1d⟩, ⟨h1n, h1d⟩, k1⟩ := s1
  obtain ⟨⟨l2n, l2d⟩, ⟨h2n, h2d⟩, k2⟩ := s2
  simp only [Cl.st0] at BO1 BO2 AT1 AT2 ⊢
  generalize px + Cl.rround ⟨l2n, l2d⟩ (qx - px) = ax at *
  generalize py + Cl.rround ⟨l2n, l2d⟩ (qy - py) = ay at *
  generalize px + Cl.rround ⟨h2n, h2d⟩ (qx - px) = bx at *
  generalize py + Cl.rround ⟨h2n, h2d⟩ (qy - py) = by' at *
  obtain ⟨W5, hW⟩ : ∃ W5, W5 = (((((w.alloc (.cells #[.int .i64 px, .int .i64 py] 24)).alloc (.cells #[.int .i64 qx, .int .i64 qy] 24)).alloc (.cells #[.int .i64 x0, .int .i64 y0, .int .i64 x1, .int .i64 y1] 26)).alloc (.cells #[.int .i64 0, .int .i64 0] 24)).alloc (.cells #[.int .i64 0, .int .i64 0] 24)) := ⟨_, rfl⟩
  have X := PQ.made w px py qx qy x0 y0 x1 y1
  have BB := below5 w px py qx qy x0 y0 x1 y1
  rw [← hW] at X BB
  have HB := Lib.hid BB; clear BB
  obtain ⟨g, hg⟩ : ∃ g, w.heap.size = g := ⟨_, rfl⟩
  rw [hg] at X
  have HX := Lib.hid X; clear X
  have w1 : IntKind.i64.wrap (qx - px) = qx - px := IntWalk.i64_in _ (by omega)
  have w2 : IntKind.i64.wrap (qy - py) = qy - py := IntWalk.i64_in _ (by omega)
  clear hp1 hp2 hp3 hp4 hq1 hq2 hq3 hq4 a1 a2 a3 a4 b1 b2 b3 b4
  go_enter Try.func23, Try.ntmps23
  go_upto_region 1 with fail
  rw [← hW]
  clear hW
  obtain ⟨p0, p1⟩ := cell_two HX.out.p
  obtain ⟨q0, q1⟩ := cell_two HX.out.q
  obtain ⟨x0', y0', x1', y1'⟩ := HX.out.cb
  go_wp2_with fail
  refine (BO1.out _).mono ?_
  rintro e w6 ⟨rfl, hb6⟩
  have X6 := Lib.hid (HX.out.below hb6); have B6 := Lib.hid (HB.out.trans (hb6.mono HB.out.size)); clear hb6 BO1 HX HB p0 p1 q0 q1 x0' y0' x1' y1' W5
  obtain ⟨p0, p1⟩ := cell_two X6.out.p
  obtain ⟨q0, q1⟩ := cell_two X6.out.q
  go_upto_region 2 with fail
  obtain ⟨W7, hW⟩ : ∃ W7, W7 = (w6.alloc (.cells #[.int .i64 l1n, .int .i64 l1d] 53)).alloc (.cells #[.int .i64 h1n, .int .i64 h1d] 53) := ⟨_, rfl⟩
  have LB : W7.heap[w6.heap.size]? = some (.cells #[.int .i64 l1n, .int .i64 l1d] 53 (0, 0)) := by rw [hW]; exact (alloc_old _ _ (by simp)).trans (heap_alloc_new w6 _)
  have HBk : W7.heap[w6.heap.size + 1]? = some (.cells #[.int .i64 h1n, .int .i64 h1d] 53 (0, 0)) := by rw [hW]; exact alloc_new' _ _ _ (by simp)
  have B67 : Below w6.heap.size w6 W7 := by rw [hW]; exact ((Below.refl _ _).alloc (Nat.le_refl _) _).alloc (by simp) _
  have X7 := Lib.hid (X6.out.below B67); have B7 := Lib.hid (B6.out.trans (B67.mono B6.out.size))
  have ZZ : Hid (g + 1 + 1 + 1 + 1 < w6.heap.size) := Lib.hid (lt_of_block X6.out.s)
  rw [← hW]
  clear hW B67 X6 B6 p0 p1 q0 q1
  obtain ⟨j, hj⟩ : ∃ j, w6.heap.size = j := ⟨_, rfl⟩
  rw [hj] at LB HBk ZZ
  have LBh := Lib.hid LB; have HBh := Lib.hid HBk; clear LB HBk
  obtain ⟨r0, r1⟩ := cell_two X7.out.r
  obtain ⟨s0, s1⟩ := cell_two X7.out.s
  have fr0 := free_blk X7.out.r 0; have fr1 := free_blk X7.out.r 1; have fs0 := free_blk X7.out.s 0; have fs1 := free_blk X7.out.s 1
  obtain ⟨p0, p1⟩ := cell_two X7.out.p
  obtain ⟨q0, q1⟩ := cell_two X7.out.q
  rcases ok1 with _ | _
  · have np0 : ¬ (g = g + 1 + 1 + 1 ∨ g = g + 1 + 1 + 1 + 1) := by omega
    have np1 : ¬ (g + 1 = g + 1 + 1 + 1 ∨ g + 1 = g + 1 + 1 + 1 + 1) := by omega
    have C0 : ∀ w', But (fun k => k = g + 1 + 1 + 1 ∨ k = g + 1 + 1 + 1 + 1) W7 w' → w'.cell? ⟨g, 0, none⟩ = some (.int .i64 px) := fun w' h => h.c np0 (by exact p0)
    have C1 : ∀ w', But (fun k => k = g + 1 + 1 + 1 ∨ k = g + 1 + 1 + 1 + 1) W7 w' → w'.cell? ⟨g, 1, none⟩ = some (.int .i64 py) := fun w' h => h.c np0 (by exact p1)
    have C2 : ∀ w', But (fun k => k = g + 1 + 1 + 1 ∨ k = g + 1 + 1 + 1 + 1) W7 w' → w'.cell? ⟨g + 1, 0, none⟩ = some (.int .i64 qx) := fun w' h => h.c np1 (by exact q0)
    have C3 : ∀ w', But (fun k => k = g + 1 + 1 + 1 ∨ k = g + 1 + 1 + 1 + 1) W7 w' → w'.cell? ⟨g + 1, 1, none⟩ = some (.int .i64 qy) := fun w' h => h.c np1 (by exact q1)
    have o0 : But (fun k => k = g + 1 + 1 + 1 ∨ k = g + 1 + 1 + 1 + 1) W7 W7.drew := But.drew (But.refl _ _)
    clear p0 p1 q0 q1 np0 np1 w1 w2
    go_wp2_with fail
    go_region_held3 (fun w' => But (fun k => k = g + 1 + 1 + 1 ∨ k = g + 1 + 1 + 1 + 1) W7 w') (first | assumption | ((repeat (first | exact But.refl _ _ | refine But.drew ?_ | ((refine But.set ?_ ?hp _); (case hp => (first | exact .inl rfl | exact .inr rfl))))); done)) (fail)
    go_wp2_with fail
    refine bodyPost_ret (v := .tuple #[.agg #[.int .i64 px, .int .i64 py], .agg #[.int .i64 qx, .int .i64 qy], .bool false]) (by simp [results, Try.results23, go_sem, r0, r1, s0, s1]) rfl ⟨rfl, ?_⟩
    refine Eq.subst (motive := fun z => Below z w _) hg ?_
    exact B7.out.trans (But.below (X := (fun k => k = g + 1 + 1 + 1 ∨ k = g + 1 + 1 + 1 + 1)) (B := w.heap.size) (by ((repeat (first | exact But.refl _ _ | refine But.drew ?_ | ((refine But.set ?_ ?hp _); (case hp => (first | exact .inl rfl | exact .inr rfl))))); done)) B7.out.size (by intro k hk; omega))
  · obtain ⟨x0', y0', x1', y1'⟩ := X7.out.cb
    obtain ⟨l0, l1⟩ := cell_two LBh.out
    obtain ⟨h0, h1⟩ := cell_two HBh.out
    clear r0 r1 s0 s1 fr0 fr1 fs0 fs1
    go_wp2_with fail
    refine (BO2.out _).mono ?_
    rintro e w8 ⟨rfl, hb8⟩
    have X8 := Lib.hid (X7.out.below hb8); have B8 := Lib.hid (B7.out.trans (hb8.mono B7.out.size))
    have LB8 := (hb8.block _ (lt_of_block LBh.out)).trans LBh.out
    have HB8 := (hb8.block _ (lt_of_block HBh.out)).trans HBh.out
    clear hb8 BO2 X7 B7 LBh HBh p0 p1 q0 q1 x0' y0' x1' y1' l0 l1 h0 h1 W7
    obtain ⟨l0, l1⟩ := cell_two LB8
    obtain ⟨h0, h1⟩ := cell_two HB8
    have fl0 := free_blk LB8 0; have fl1 := free_blk LB8 1; have fh0 := free_blk HB8 0; have fh1 := free_blk HB8 1
    have LB8' := Lib.hid LB8; have HB8' := Lib.hid HB8; clear LB8 HB8
    go_upto_region 5 with fail
    obtain ⟨W9, hW⟩ : ∃ W9, W9 = ((((w8.setCell ⟨j, 0, none⟩ (.int .i64 l2n)).setCell ⟨j, 1, none⟩ (.int .i64 l2d)).setCell ⟨j + 1, 0, none⟩ (.int .i64 h2n)).setCell ⟨j + 1, 1, none⟩ (.int .i64 h2d)) := ⟨_, rfl⟩
    have zz := ZZ.out
    have X9 : Hid (PQ W9 g px py qx qy x0 y0 x1 y1) := Lib.hid (by
      rw [hW]
      exact ⟨(blk_two _ _ _ _ _ (by omega)).trans ((blk_two _ _ _ _ _ (by omega)).trans X8.out.p), (blk_two _ _ _ _ _ (by omega)).trans ((blk_two _ _ _ _ _ (by omega)).trans X8.out.q), (blk_two _ _ _ _ _ (by omega)).trans ((blk_two _ _ _ _ _ (by omega)).trans X8.out.b), (blk_two _ _ _ _ _ (by omega)).trans ((blk_two _ _ _ _ _ (by omega)).trans X8.out.r), (blk_two _ _ _ _ _ (by omega)).trans ((blk_two _ _ _ _ _ (by omega)).trans X8.out.s)⟩)
    have LB9 : Hid (W9.heap[j]? = some (.cells #[.int .i64 l2n, .int .i64 l2d] 53 (0, 0))) := Lib.hid (by rw [hW]; exact (blk_two _ _ _ _ _ (by omega)).trans (set_two LB8'.out _ _))
    have HB9 : Hid (W9.heap[j + 1]? = some (.cells #[.int .i64 h2n, .int .i64 h2d] 53 (0, 0))) := Lib.hid (by rw [hW]; exact set_two ((blk_two _ _ _ _ _ (by omega)).trans HB8'.out) _ _)
    have B9 : Hid (Below w.heap.size w W9) := Lib.hid (by rw [hW]; exact (((B8.out.setCell (by show w.heap.size ≤ j; omega) _).setCell (by show w.heap.size ≤ j; omega) _).setCell (by show w.heap.size ≤ j + 1; omega) _).setCell (by show w.heap.size ≤ j + 1; omega) _)
    rw [← hW]
    clear hW X8 LB8' HB8' B8 l0 l1 h0 h1 fl0 fl1 fh0 fh1 hj
    obtain ⟨p0, p1⟩ := cell_two X9.out.p
    obtain ⟨q0, q1⟩ := cell_two X9.out.q
    obtain ⟨l0, l1⟩ := cell_two LB9.out
    obtain ⟨h0, h1⟩ := cell_two HB9.out
    obtain ⟨r0, r1⟩ := cell_two X9.out.r
    obtain ⟨s0, s1⟩ := cell_two X9.out.s
    have fr0 := free_blk X9.out.r 0; have fr1 := free_blk X9.out.r 1; have fs0 := free_blk X9.out.s 0; have fs1 := free_blk X9.out.s 1
    have hz1 : g + 1 + 1 + 1 < W9.heap.size := lt_of_block X9.out.r
    have hz2 : g + 1 + 1 + 1 + 1 < W9.heap.size := lt_of_block X9.out.s
    have np0 : ¬ (g = g + 1 + 1 + 1 ∨ g = g + 1 + 1 + 1 + 1) := by omega
    have np1 : ¬ (g + 1 = g + 1 + 1 + 1 ∨ g + 1 = g + 1 + 1 + 1 + 1) := by omega
    have np2 : ¬ (j = g + 1 + 1 + 1 ∨ j = g + 1 + 1 + 1 + 1) := by omega
    have np3 : ¬ (j + 1 = g + 1 + 1 + 1 ∨ j + 1 = g + 1 + 1 + 1 + 1) := by omega
    have C0 : ∀ w', But (fun k => k = g + 1 + 1 + 1 ∨ k = g + 1 + 1 + 1 + 1) W9 w' → w'.cell? ⟨g, 0, none⟩ = some (.int .i64 px) := fun w' h => h.c np0 (by exact p0)
    have C1 : ∀ w', But (fun k => k = g + 1 + 1 + 1 ∨ k = g + 1 + 1 + 1 + 1) W9 w' → w'.cell? ⟨g, 1, none⟩ = some (.int .i64 py) := fun w' h => h.c np0 (by exact p1)
    have C2 : ∀ w', But (fun k => k = g + 1 + 1 + 1 ∨ k = g + 1 + 1 + 1 + 1) W9 w' → w'.cell? ⟨g + 1, 0, none⟩ = some (.int .i64 qx) := fun w' h => h.c np1 (by exact q0)
    have C3 : ∀ w', But (fun k => k = g + 1 + 1 + 1 ∨ k = g + 1 + 1 + 1 + 1) W9 w' → w'.cell? ⟨g + 1, 1, none⟩ = some (.int .i64 qy) := fun w' h => h.c np1 (by exact q1)
    have C4 : ∀ w', But (fun k => k = g + 1 + 1 + 1 ∨ k = g + 1 + 1 + 1 + 1) W9 w' → w'.cell? ⟨j, 0, none⟩ = some (.int .i64 l2n) := fun w' h => h.c np2 (by exact l0)
    have C5 : ∀ w', But (fun k => k = g + 1 + 1 + 1 ∨ k = g + 1 + 1 + 1 + 1) W9 w' → w'.cell? ⟨j, 1, none⟩ = some (.int .i64 l2d) := fun w' h => h.c np2 (by exact l1)
    have C6 : ∀ w', But (fun k => k = g + 1 + 1 + 1 ∨ k = g + 1 + 1 + 1 + 1) W9 w' → w'.cell? ⟨j + 1, 0, none⟩ = some (.int .i64 h2n) := fun w' h => h.c np3 (by exact h0)
    have C7 : ∀ w', But (fun k => k = g + 1 + 1 + 1 ∨ k = g + 1 + 1 + 1 + 1) W9 w' → w'.cell? ⟨j + 1, 1, none⟩ = some (.int .i64 h2d) := fun w' h => h.c np3 (by exact h1)
    have o0 : But (fun k => k = g + 1 + 1 + 1 ∨ k = g + 1 + 1 + 1 + 1) W9 W9.drew := But.drew (But.refl _ _)
    clear p0 p1 q0 q1 l0 l1 h0 h1 np0 np1 np2 np3 w1 w2 zz
    go_region_held3 (fun w' => But (fun k => k = g + 1 + 1 + 1 ∨ k = g + 1 + 1 + 1 + 1) W9 w') (first | assumption | ((repeat (first | assumption | exact But.refl _ _ | refine But.drew ?_ | ((refine But.set ?_ ?hp _); (case hp => (first | exact .inl rfl | exact .inr rfl))) | ((refine But.trans ?_ (But.of_below (by assumption)))))); done)) ((first | ((with_reducible refine (AT1.out _).mono ?_); rintro e w2 ⟨rfl, hb2⟩; have o2 := But.trans (by assumption) (But.of_below hb2); have k0 := hb2.cell (p := ⟨g + 1 + 1 + 1, 0, none⟩) (by simpa using hz1); have k1 := hb2.cell (p := ⟨g + 1 + 1 + 1, 1, none⟩) (by simpa using hz1); have k2 := hb2.cell (p := ⟨g + 1 + 1 + 1 + 1, 0, none⟩) (by simpa using hz2); have k3 := hb2.cell (p := ⟨g + 1 + 1 + 1 + 1, 1, none⟩) (by simpa using hz2); have k4 := hb2.frozen (p := ⟨g + 1 + 1 + 1, 0, none⟩) (by simpa using hz1); have k5 := hb2.frozen (p := ⟨g + 1 + 1 + 1, 1, none⟩) (by simpa using hz1); have k6 := hb2.frozen (p := ⟨g + 1 + 1 + 1 + 1, 0, none⟩) (by simpa using hz2); have k7 := hb2.frozen (p := ⟨g + 1 + 1 + 1 + 1, 1, none⟩) (by simpa using hz2); simp [r0, r1, s0, s1, fr0, fr1, fs0, fs1] at k0 k1 k2 k3 k4 k5 k6 k7; clear r0 r1 s0 s1 fr0 fr1 fs0 fs1; have r0 := k0; have r1 := k1; have s0 := k2; have s1 := k3; have fr0 := k4; have fr1 := k5; have fs0 := k6; have fs1 := k7; clear k0 k1 k2 k3 k4 k5 k6 k7; have hzz := hb2.size; (try simp at hzz); have hz1 := Nat.lt_of_lt_of_le hz1 hzz; have hz2 := Nat.lt_of_lt_of_le hz2 hzz; clear hzz) | ((with_reducible refine (AT2.out _).mono ?_); rintro e w2 ⟨rfl, hb2⟩; have o2 := But.trans (by assumption) (But.of_below hb2); have k0 := hb2.cell (p := ⟨g + 1 + 1 + 1, 0, none⟩) (by simpa using hz1); have k1 := hb2.cell (p := ⟨g + 1 + 1 + 1, 1, none⟩) (by simpa using hz1); have k2 := hb2.cell (p := ⟨g + 1 + 1 + 1 + 1, 0, none⟩) (by simpa using hz2); have k3 := hb2.cell (p := ⟨g + 1 + 1 + 1 + 1, 1, none⟩) (by simpa using hz2); have k4 := hb2.frozen (p := ⟨g + 1 + 1 + 1, 0, none⟩) (by simpa using hz1); have k5 := hb2.frozen (p := ⟨g + 1 + 1 + 1, 1, none⟩) (by simpa using hz1); have k6 := hb2.frozen (p := ⟨g + 1 + 1 + 1 + 1, 0, none⟩) (by simpa using hz2); have k7 := hb2.frozen (p := ⟨g + 1 + 1 + 1 + 1, 1, none⟩) (by simpa using hz2); simp [r0, r1, s0, s1, fr0, fr1, fs0, fs1] at k0 k1 k2 k3 k4 k5 k6 k7; clear r0 r1 s0 s1 fr0 fr1 fs0 fs1; have r0 := k0; have r1 := k1; have s0 := k2; have s1 := k3; have fr0 := k4; have fr1 := k5; have fs0 := k6; have fs1 := k7; clear k0 k1 k2 k3 k4 k5 k6 k7; have hzz := hb2.size; (try simp at hzz); have hz1 := Nat.lt_of_lt_of_le hz1 hzz; have hz2 := Nat.lt_of_lt_of_le hz2 hzz; clear hzz)))
    go_wp2_with fail
    refine bodyPost_ret (v := .tuple #[.agg #[.int .i64 ax, .int .i64 ay], .agg #[.int .i64 bx, .int .i64 by'], .bool ok2]) (by simp [results, Try.results23, go_sem, r0, r1, s0, s1]) rfl ⟨rfl, ?_⟩
    refine Eq.subst (motive := fun z => Below z w _) hg ?_
    exact B9.out.trans (But.below (X := (fun k => k = g + 1 + 1 + 1 ∨ k = g + 1 + 1 + 1 + 1)) (B := w.heap.size) (by ((repeat (first | assumption | exact But.refl _ _ | refine But.drew ?_ | ((refine But.set ?_ ?hp _); (case hp => (first | exact .inl rfl | exact .inr rfl))) | ((refine But.trans ?_ (But.of_below (by assumption)))))); done)) B9.out.size (by intro k hk; omega))
end Go.Proofs.Ytdiknijbjmhacaa
