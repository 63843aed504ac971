/- WALKS: the reference's limits by a coordinate. -/
import Derived.Test.YtdiknijbjmhacaaD8
import Derived.Test.YtdiknijbjmhacaaE2
import Derived.Deep.RegionHeld3
import Derived.Deep.DrawnRows
set_option linter.unusedSimpArgs false
set_option linter.unusedVariables false
namespace Go.Proofs.Ytdiknijbjmhacaa
open Go.RowKit
attribute [local go_sem ↓] Go.wp_at_zero Go.wp_at_succ

theorem rless_b (r s : Cl.Rt) (b : Bool) (w : World) (hr : Cl.Sm r) (hs : Cl.Sm s) (hb : Cl.rless r s = b) :
    Calls Try.prog 53 #[.agg #[.int .i64 r.n, .int .i64 r.d], .agg #[.int .i64 s.n, .int .i64 s.d]] w fun e w' => e = .returned (.bool b) ∧ Below w.heap.size w w' := by
  subst hb
  obtain ⟨h1, h2, h3, h4⟩ := hr
  obtain ⟨k1, k2, k3, k4⟩ := hs
  exact rless_any _ _ _ _ w (by omega) (by omega) (by omega) (by omega)
/-- six blocks: low, high, the two results, from, to -/
structure Bb (w : World) (g : Nat) (l h f t : Cl.Rt) : Prop where
  l : w.heap[g]? = some (.cells #[.int .i64 (l.n), .int .i64 (l.d)] 53 (0, 0))
  h : w.heap[g + 1]? = some (.cells #[.int .i64 (h.n), .int .i64 (h.d)] 53 (0, 0))
  r : w.heap[g + 1 + 1]? = some (.cells #[.int .i64 0, .int .i64 0] 53 (0, 0))
  s : w.heap[g + 1 + 1 + 1]? = some (.cells #[.int .i64 0, .int .i64 0] 53 (0, 0))
  f : w.heap[g + 1 + 1 + 1 + 1]? = some (.cells #[.int .i64 (f.n), .int .i64 (f.d)] 53 (0, 0))
  t : w.heap[g + 1 + 1 + 1 + 1 + 1]? = some (.cells #[.int .i64 (t.n), .int .i64 (t.d)] 53 (0, 0))
variable {w w' : World} {g : Nat} {l h f t : Cl.Rt}
theorem Bb.below (x : Bb w g l h f t) (hb : Below w.heap.size w w') : Bb w' g l h f t := ⟨(hb.block _ (lt_of_block x.l)).trans x.l, (hb.block _ (lt_of_block x.h)).trans x.h, (hb.block _ (lt_of_block x.r)).trans x.r, (hb.block _ (lt_of_block x.s)).trans x.s, (hb.block _ (lt_of_block x.f)).trans x.f, (hb.block _ (lt_of_block x.t)).trans x.t⟩
theorem Bb.cl (x : Bb w g l h f t) : w.cell? ⟨g, 0, none⟩ = some (.int .i64 (l.n)) ∧ w.cell? ⟨g, 1, none⟩ = some (.int .i64 (l.d)) ∧ w.frozen? ⟨g, 0, none⟩ = false ∧ w.frozen? ⟨g, 1, none⟩ = false := ⟨(cell_two x.l).1, (cell_two x.l).2, free_blk x.l 0, free_blk x.l 1⟩
theorem Bb.ch (x : Bb w g l h f t) : w.cell? ⟨g + 1, 0, none⟩ = some (.int .i64 (h.n)) ∧ w.cell? ⟨g + 1, 1, none⟩ = some (.int .i64 (h.d)) ∧ w.frozen? ⟨g + 1, 0, none⟩ = false ∧ w.frozen? ⟨g + 1, 1, none⟩ = false := ⟨(cell_two x.h).1, (cell_two x.h).2, free_blk x.h 0, free_blk x.h 1⟩
theorem Bb.cr (x : Bb w g l h f t) : w.cell? ⟨g + 1 + 1, 0, none⟩ = some (.int .i64 (0)) ∧ w.cell? ⟨g + 1 + 1, 1, none⟩ = some (.int .i64 (0)) ∧ w.frozen? ⟨g + 1 + 1, 0, none⟩ = false ∧ w.frozen? ⟨g + 1 + 1, 1, none⟩ = false := ⟨(cell_two x.r).1, (cell_two x.r).2, free_blk x.r 0, free_blk x.r 1⟩
theorem Bb.cs (x : Bb w g l h f t) : w.cell? ⟨g + 1 + 1 + 1, 0, none⟩ = some (.int .i64 (0)) ∧ w.cell? ⟨g + 1 + 1 + 1, 1, none⟩ = some (.int .i64 (0)) ∧ w.frozen? ⟨g + 1 + 1 + 1, 0, none⟩ = false ∧ w.frozen? ⟨g + 1 + 1 + 1, 1, none⟩ = false := ⟨(cell_two x.s).1, (cell_two x.s).2, free_blk x.s 0, free_blk x.s 1⟩
theorem Bb.cf (x : Bb w g l h f t) : w.cell? ⟨g + 1 + 1 + 1 + 1, 0, none⟩ = some (.int .i64 (f.n)) ∧ w.cell? ⟨g + 1 + 1 + 1 + 1, 1, none⟩ = some (.int .i64 (f.d)) ∧ w.frozen? ⟨g + 1 + 1 + 1 + 1, 0, none⟩ = false ∧ w.frozen? ⟨g + 1 + 1 + 1 + 1, 1, none⟩ = false := ⟨(cell_two x.f).1, (cell_two x.f).2, free_blk x.f 0, free_blk x.f 1⟩
theorem Bb.ct (x : Bb w g l h f t) : w.cell? ⟨g + 1 + 1 + 1 + 1 + 1, 0, none⟩ = some (.int .i64 (t.n)) ∧ w.cell? ⟨g + 1 + 1 + 1 + 1 + 1, 1, none⟩ = some (.int .i64 (t.d)) ∧ w.frozen? ⟨g + 1 + 1 + 1 + 1 + 1, 0, none⟩ = false ∧ w.frozen? ⟨g + 1 + 1 + 1 + 1 + 1, 1, none⟩ = false := ⟨(cell_two x.t).1, (cell_two x.t).2, free_blk x.t 0, free_blk x.t 1⟩
theorem Bb.set_l (x : Bb w g l h f t) (y : Cl.Rt) : Bb ((w.setCell ⟨g, 0, none⟩ (.int .i64 y.n)).setCell ⟨g, 1, none⟩ (.int .i64 y.d)) g y h f t := ⟨set_two x.l _ _, (blk_two _ _ _ _ _ (by omega)).trans x.h, (blk_two _ _ _ _ _ (by omega)).trans x.r, (blk_two _ _ _ _ _ (by omega)).trans x.s, (blk_two _ _ _ _ _ (by omega)).trans x.f, (blk_two _ _ _ _ _ (by omega)).trans x.t⟩
theorem Bb.set_h (x : Bb w g l h f t) (y : Cl.Rt) : Bb ((w.setCell ⟨g + 1, 0, none⟩ (.int .i64 y.n)).setCell ⟨g + 1, 1, none⟩ (.int .i64 y.d)) g l y f t := ⟨(blk_two _ _ _ _ _ (by omega)).trans x.l, set_two x.h _ _, (blk_two _ _ _ _ _ (by omega)).trans x.r, (blk_two _ _ _ _ _ (by omega)).trans x.s, (blk_two _ _ _ _ _ (by omega)).trans x.f, (blk_two _ _ _ _ _ (by omega)).trans x.t⟩
theorem Bb.set_f (x : Bb w g l h f t) (y : Cl.Rt) : Bb ((w.setCell ⟨g + 1 + 1 + 1 + 1, 0, none⟩ (.int .i64 y.n)).setCell ⟨g + 1 + 1 + 1 + 1, 1, none⟩ (.int .i64 y.d)) g l h y t := ⟨(blk_two _ _ _ _ _ (by omega)).trans x.l, (blk_two _ _ _ _ _ (by omega)).trans x.h, (blk_two _ _ _ _ _ (by omega)).trans x.r, (blk_two _ _ _ _ _ (by omega)).trans x.s, set_two x.f _ _, (blk_two _ _ _ _ _ (by omega)).trans x.t⟩
theorem Bb.set_t (x : Bb w g l h f t) (y : Cl.Rt) : Bb ((w.setCell ⟨g + 1 + 1 + 1 + 1 + 1, 0, none⟩ (.int .i64 y.n)).setCell ⟨g + 1 + 1 + 1 + 1 + 1, 1, none⟩ (.int .i64 y.d)) g l h f y := ⟨(blk_two _ _ _ _ _ (by omega)).trans x.l, (blk_two _ _ _ _ _ (by omega)).trans x.h, (blk_two _ _ _ _ _ (by omega)).trans x.r, (blk_two _ _ _ _ _ (by omega)).trans x.s, (blk_two _ _ _ _ _ (by omega)).trans x.f, set_two x.t _ _⟩

theorem But.drew {X : Nat → Prop} {a b : World} (h : But X a b) : But X a b.drew := ⟨h.os, h.tape, h.output, h.size, h.block⟩
/-- four blocks: low, high, the two results -/
structure B4 (w : World) (g : Nat) (l h : Cl.Rt) : Prop where
  l : w.heap[g]? = some (.cells #[.int .i64 (l.n), .int .i64 (l.d)] 53 (0, 0))
  h : w.heap[g + 1]? = some (.cells #[.int .i64 (h.n), .int .i64 (h.d)] 53 (0, 0))
  r : w.heap[g + 1 + 1]? = some (.cells #[.int .i64 0, .int .i64 0] 53 (0, 0))
  s : w.heap[g + 1 + 1 + 1]? = some (.cells #[.int .i64 0, .int .i64 0] 53 (0, 0))
theorem B4.made (w : World) (ln ld hn hd : Int) : B4 ((((w.alloc (.cells #[.int .i64 ln, .int .i64 ld] 53)).alloc (.cells #[.int .i64 hn, .int .i64 hd] 53)).alloc (.cells #[.int .i64 0, .int .i64 0] 53)).alloc (.cells #[.int .i64 0, .int .i64 0] 53)) w.heap.size ⟨ln, ld⟩ ⟨hn, hd⟩ := by
  constructor <;> (repeat (first | ((with_reducible refine alloc_new' _ _ _ ?_); (simp; done)) | ((with_reducible refine (alloc_old _ _ ?_).trans ?_); (focus (simp; try omega)))))
theorem below4 (w : World) (ln ld hn hd : Int) : Below w.heap.size w ((((w.alloc (.cells #[.int .i64 ln, .int .i64 ld] 53)).alloc (.cells #[.int .i64 hn, .int .i64 hd] 53)).alloc (.cells #[.int .i64 0, .int .i64 0] 53)).alloc (.cells #[.int .i64 0, .int .i64 0] 53)) := ((((Below.refl _ _).alloc (Nat.le_refl _) _).alloc (by simp) _).alloc (by simp; omega) _).alloc (by simp; omega) _

set_option maxHeartbeats 8000000 in
theorem rbound_zero (f lo hi ln ld hn hd : Int) (w : World) :
    Calls Try.prog 42 #[.int .i64 f, .int .i64 0, .int .i64 lo, .int .i64 hi, .agg #[.int .i64 ln, .int .i64 ld], .agg #[.int .i64 hn, .int .i64 hd]] w fun e w' => e = .returned (.tuple #[.agg #[.int .i64 ln, .int .i64 ld], .agg #[.int .i64 hn, .int .i64 hd], .bool (decide (lo ≤ f) && decide (f ≤ hi))]) ∧ Below w.heap.size w w' := by
  obtain ⟨W4, hW⟩ : ∃ W4, W4 = ((((w.alloc (.cells #[.int .i64 ln, .int .i64 ld] 53)).alloc (.cells #[.int .i64 hn, .int .i64 hd] 53)).alloc (.cells #[.int .i64 0, .int .i64 0] 53)).alloc (.cells #[.int .i64 0, .int .i64 0] 53)) := ⟨_, rfl⟩
  have X := B4.made w ln ld hn hd
  have BB := below4 w ln ld hn hd
  rw [← hW] at X BB
  have HB := Lib.hid BB; clear BB
  obtain ⟨g, hg⟩ : ∃ g, w.heap.size = g := ⟨_, rfl⟩
  rw [hg] at X
  obtain ⟨l0, l1⟩ := cell_two X.l
  obtain ⟨h0, h1⟩ := cell_two X.h
  obtain ⟨r0, r1⟩ := cell_two X.r
  obtain ⟨s0, s1⟩ := cell_two X.s
  have fr0 := free_blk X.r 0; have fr1 := free_blk X.r 1; have fs0 := free_blk X.s 0; have fs1 := free_blk X.s 1
  simp only at l0 l1 h0 h1
  have HX := Lib.hid X; clear X
  have np0 : ¬ (g = g + 1 + 1 ∨ g = g + 1 + 1 + 1) := by omega
  have np1 : ¬ (g + 1 = g + 1 + 1 ∨ g + 1 = g + 1 + 1 + 1) := by omega
  have C0 : ∀ w', But (fun k => k = g + 1 + 1 ∨ k = g + 1 + 1 + 1) W4 w' → w'.cell? ⟨g, 0, none⟩ = some (.int .i64 ln) := fun w' h => h.c np0 (by exact l0)
  have C1 : ∀ w', But (fun k => k = g + 1 + 1 ∨ k = g + 1 + 1 + 1) W4 w' → w'.cell? ⟨g, 1, none⟩ = some (.int .i64 ld) := fun w' h => h.c np0 (by exact l1)
  have C2 : ∀ w', But (fun k => k = g + 1 + 1 ∨ k = g + 1 + 1 + 1) W4 w' → w'.cell? ⟨g + 1, 0, none⟩ = some (.int .i64 hn) := fun w' h => h.c np1 (by exact h0)
  have C3 : ∀ w', But (fun k => k = g + 1 + 1 ∨ k = g + 1 + 1 + 1) W4 w' → w'.cell? ⟨g + 1, 1, none⟩ = some (.int .i64 hd) := fun w' h => h.c np1 (by exact h1)
  have o0 : But (fun k => k = g + 1 + 1 ∨ k = g + 1 + 1 + 1) W4 W4.drew := But.drew (But.refl _ _)
  clear l0 l1 h0 h1
  by_cases c1 : lo ≤ f
  · have d1 : decide (lo ≤ f) = true := by simpa using c1
    rw [d1, Bool.true_and]
    clear c1
    go_enter Try.func42, Try.ntmps42
    go_wp2_with fail
    rw [← hW]
    clear hW np0 np1
    go_region_held3 (fun w' => But (fun k => k = g + 1 + 1 ∨ k = g + 1 + 1 + 1) W4 w') (first | assumption | ((repeat (first | exact But.refl _ _ | refine But.drew ?_ | ((refine But.set ?_ ?hp _); (case hp => (first | exact .inl rfl | exact .inr rfl))))); done)) (fail)
    go_wp2_with fail
    refine bodyPost_ret (v := .tuple #[.agg #[.int .i64 ln, .int .i64 ld], .agg #[.int .i64 hn, .int .i64 hd], .bool (decide (f ≤ hi))]) (by simp [results, Try.results42, go_sem, r0, r1, s0, s1]) rfl ⟨rfl, ?_⟩
    refine HB.out.trans ((But.below (X := fun k => k = g + 1 + 1 ∨ k = g + 1 + 1 + 1) (B := w.heap.size) (by ((repeat (first | exact But.refl _ _ | refine But.drew ?_ | ((refine But.set ?_ ?hp _); (case hp => (first | exact .inl rfl | exact .inr rfl))))); done)) HB.out.size (by omega)).mono (Nat.le_refl _))
  · have d1 : decide (lo ≤ f) = false := by simpa using c1
    rw [d1, Bool.false_and]
    clear c1
    go_enter Try.func42, Try.ntmps42
    go_wp2_with fail
    rw [← hW]
    clear hW np0 np1
    (refine wp_region_noPanic ?_; refine wp_region_held_drew (S := (fun w' => But (fun k => k = g + 1 + 1 ∨ k = g + 1 + 1 + 1) W4 w')) (by kernel_rfl) ?_ (fun hHeld => ?_); exact o0)
    (refine wpAnyH_take (i := 0) (oi := _) (v := ?_) rfl (by kernel_rfl) (by kernel_rfl) (by kernel_rfl) (fun _ _ _ h => h) (Or.inl ⟨?_, ?_⟩) (by assumption) ?_; rotate_left; (focus (first | rfl | (simp [Region.wanted, yielded]; done))); (focus (intro w hSw; (try dsimp only at hSw); go_simp; all_goals (with_reducible rfl))); try simp only [Act.put, List.getElem_toArray, List.getElem_cons_zero, List.getElem_cons_succ, List.setIfInBounds_toArray, List.set_cons_zero, List.set_cons_succ])
    (refine wpAnyH_take (i := 1) (oi := _) (v := ?_) rfl (by kernel_rfl) (by kernel_rfl) (by kernel_rfl) (fun _ _ _ h => h) (Or.inl ⟨?_, ?_⟩) (by assumption) ?_; rotate_left; (focus (first | rfl | (simp [Region.wanted, yielded]; done))); (focus (intro w hSw; (try dsimp only at hSw); go_simp; all_goals (with_reducible rfl))); try simp only [Act.put, List.getElem_toArray, List.getElem_cons_zero, List.getElem_cons_succ, List.setIfInBounds_toArray, List.set_cons_zero, List.set_cons_succ])
    (refine wpAnyH_take (i := 2) (oi := _) (v := ?_) rfl (by kernel_rfl) (by kernel_rfl) (by kernel_rfl) (fun _ _ _ h => h) (Or.inl ⟨?_, ?_⟩) (by assumption) ?_; rotate_left; (focus (first | rfl | (simp [Region.wanted, yielded]; done))); (focus (intro w hSw; (try dsimp only at hSw); go_simp; all_goals (with_reducible rfl))); try simp only [Act.put, List.getElem_toArray, List.getElem_cons_zero, List.getElem_cons_succ, List.setIfInBounds_toArray, List.set_cons_zero, List.set_cons_succ])
    (refine wpAnyH_take (i := 3) (oi := _) (v := ?_) rfl (by kernel_rfl) (by kernel_rfl) (by kernel_rfl) (fun _ _ _ h => h) (Or.inl ⟨?_, ?_⟩) (by assumption) ?_; rotate_left; (focus (first | rfl | (simp [Region.wanted, yielded]; done))); (focus (intro w hSw; (try dsimp only at hSw); go_simp; all_goals (with_reducible rfl))); try simp only [Act.put, List.getElem_toArray, List.getElem_cons_zero, List.getElem_cons_succ, List.setIfInBounds_toArray, List.set_cons_zero, List.set_cons_succ])
    (refine wpAnyH_take (i := 4) (oi := _) (v := .bool false) rfl (by kernel_rfl) (by kernel_rfl) (by kernel_rfl) (fun _ _ _ h => h) (Or.inl ⟨?_, ?_⟩) (by assumption) ?_; (focus (simp [Region.wanted, yielded]; done)); (focus (intro w hSw; (try dsimp only at hSw); go_simp; all_goals (with_reducible rfl))); try simp only [Act.put, List.getElem_toArray, List.getElem_cons_zero, List.getElem_cons_succ, List.setIfInBounds_toArray, List.set_cons_zero, List.set_cons_succ])
    (refine wpAnyH_take (i := 5) (oi := _) (v := .bool false) rfl (by kernel_rfl) (by kernel_rfl) (by kernel_rfl) (fun _ _ _ h => h) (Or.inl ⟨?_, ?_⟩) (by assumption) ?_; (focus (simp [Region.wanted, yielded]; done)); (focus (intro w hSw; (try dsimp only at hSw); go_simp; all_goals (with_reducible rfl))); try simp only [Act.put, List.getElem_toArray, List.getElem_cons_zero, List.getElem_cons_succ, List.setIfInBounds_toArray, List.set_cons_zero, List.set_cons_succ])
    (refine wpAnyH_take (i := 6) (oi := _) (v := undef) rfl (by kernel_rfl) (by kernel_rfl) (by kernel_rfl) (fun _ _ _ h => h) (Or.inr ⟨?_, rfl⟩) (by assumption) ?_; (focus (simp [Region.wanted, yielded]; done)); try simp only [Act.put, List.getElem_toArray, List.getElem_cons_zero, List.getElem_cons_succ, List.setIfInBounds_toArray, List.set_cons_zero, List.set_cons_succ])
    (refine wpAnyH_take (i := 7) (oi := _) (v := undef) rfl (by kernel_rfl) (by kernel_rfl) (by kernel_rfl) (fun _ _ _ h => h) (Or.inr ⟨?_, rfl⟩) (by assumption) ?_; (focus (simp [Region.wanted, yielded]; done)); try simp only [Act.put, List.getElem_toArray, List.getElem_cons_zero, List.getElem_cons_succ, List.setIfInBounds_toArray, List.set_cons_zero, List.set_cons_succ])
    (refine wpAnyH_take (i := 8) (oi := _) (v := undef) rfl (by kernel_rfl) (by kernel_rfl) (by kernel_rfl) (fun _ _ _ h => h) (Or.inr ⟨?_, rfl⟩) (by assumption) ?_; (focus (simp [Region.wanted, yielded]; done)); try simp only [Act.put, List.getElem_toArray, List.getElem_cons_zero, List.getElem_cons_succ, List.setIfInBounds_toArray, List.set_cons_zero, List.set_cons_succ])
    (refine wpAnyH_take (i := 9) (oi := _) (v := .bool false) rfl (by kernel_rfl) (by kernel_rfl) (by kernel_rfl) (fun _ _ _ h => h) (Or.inl ⟨?_, ?_⟩) (by assumption) ?_; (focus (simp [Region.wanted, yielded]; done)); (focus (intro w hSw; (try dsimp only at hSw); go_simp; all_goals (with_reducible rfl))); try simp only [Act.put, List.getElem_toArray, List.getElem_cons_zero, List.getElem_cons_succ, List.setIfInBounds_toArray, List.set_cons_zero, List.set_cons_succ])
    (refine wpAnyH_ready (rs := [10]) (by kernel_rfl) (by simp) ?_; refine AllReadyH.cons (o := _) rfl (fun K hK => ?_) AllReadyH.nil; go_simp)
    (refine hK.out _ _ (by ((repeat (first | exact But.refl _ _ | refine But.drew ?_ | ((refine But.set ?_ ?hp _); (case hp => (first | exact .inl rfl | exact .inr rfl))))); done)) (fun hHeld2 => ?_); clear hK K hHeld; have hHeld := hHeld2; clear hHeld2; try simp only [Act.put, List.getElem_toArray, List.getElem_cons_zero, List.getElem_cons_succ, List.setIfInBounds_toArray, List.set_cons_zero, List.set_cons_succ])
    (refine wpAnyH_ready (rs := [11]) (by kernel_rfl) (by simp) ?_; refine AllReadyH.cons (o := _) rfl (fun K hK => ?_) AllReadyH.nil; go_simp)
    (refine hK.out _ _ (by ((repeat (first | exact But.refl _ _ | refine But.drew ?_ | ((refine But.set ?_ ?hp _); (case hp => (first | exact .inl rfl | exact .inr rfl))))); done)) (fun hHeld2 => ?_); clear hK K hHeld; have hHeld := hHeld2; clear hHeld2; try simp only [Act.put, List.getElem_toArray, List.getElem_cons_zero, List.getElem_cons_succ, List.setIfInBounds_toArray, List.set_cons_zero, List.set_cons_succ])
    (refine wpAnyH_take (i := 12) (oi := _) (v := ?_) rfl (by kernel_rfl) (by kernel_rfl) (by kernel_rfl) (fun _ _ _ h => h) (Or.inl ⟨?_, ?_⟩) (by assumption) ?_; rotate_left; (focus (first | rfl | (simp [Region.wanted, yielded]; done))); (focus (intro w hSw; (try dsimp only at hSw); go_simp; all_goals (with_reducible rfl))); try simp only [Act.put, List.getElem_toArray, List.getElem_cons_zero, List.getElem_cons_succ, List.setIfInBounds_toArray, List.set_cons_zero, List.set_cons_succ])
    (refine wpAnyH_done (by kernel_rfl) ?_ _; refine NoPanic.normal ?_)
    go_wp2_with fail
    refine bodyPost_ret (v := .tuple #[.agg #[.int .i64 ln, .int .i64 ld], .agg #[.int .i64 hn, .int .i64 hd], .bool false]) (by simp [results, Try.results42, go_sem, r0, r1, s0, s1]) rfl ⟨rfl, ?_⟩
    refine HB.out.trans ((But.below (X := fun k => k = g + 1 + 1 ∨ k = g + 1 + 1 + 1) (B := w.heap.size) (by ((repeat (first | exact But.refl _ _ | refine But.drew ?_ | ((refine But.set ?_ ?hp _); (case hp => (first | exact .inl rfl | exact .inr rfl))))); done)) HB.out.size (by omega)).mono (Nat.le_refl _))
end Go.Proofs.Ytdiknijbjmhacaa
