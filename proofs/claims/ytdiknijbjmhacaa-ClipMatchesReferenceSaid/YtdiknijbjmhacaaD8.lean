/- WALKS: the reference's point at a ratio. -/
import Derived.Test.YtdiknijbjmhacaaD7
import Derived.StillTailTactics
set_option linter.unusedSimpArgs false
set_option linter.unusedVariables false
namespace Go.Proofs.Ytdiknijbjmhacaa
open Go.RowKit

set_option maxHeartbeats 2000000 in
theorem rat_any (px py qx qy n d : Int) (w : World) (hs : Cl.Sm ⟨n, d⟩) (hp : Cl.nearB px py = true) (hq : Cl.nearB qx qy = true) :
    Calls Try.prog 43 #[.agg #[.int .i64 px, .int .i64 py], .agg #[.int .i64 qx, .int .i64 qy], .agg #[.int .i64 n, .int .i64 d]] w fun e w' => e = .returned (.agg #[.int .i64 (px + Cl.rround ⟨n, d⟩ (qx - px)), .int .i64 (py + Cl.rround ⟨n, d⟩ (qy - py))]) ∧ Below w.heap.size w w' := by
  obtain ⟨⟨hp1, hp2⟩, hp3, hp4⟩ := Cl.near_iff.1 hp
  obtain ⟨⟨hq1, hq2⟩, hq3, hq4⟩ := Cl.near_iff.1 hq
  obtain ⟨hn1, hn2, hd1, hd2⟩ := hs
  simp only at hn1 hn2 hd1 hd2
  have hs' : Cl.Sm ⟨n, d⟩ := ⟨hn1, hn2, hd1, hd2⟩
  obtain ⟨bx1, bx2⟩ := rround_bd hs' (m := qx - px) (by omega)
  obtain ⟨by1, by2⟩ := rround_bd hs' (m := qy - py) (by omega)
  obtain ⟨mx1, mx2⟩ := mul_bd (a := n) (b := qx - px) 4194304 4194304 ⟨hn1, hn2⟩ (by omega)
  obtain ⟨my1, my2⟩ := mul_bd (a := n) (b := qy - py) 4194304 4194304 ⟨hn1, hn2⟩ (by omega)
  obtain ⟨rx, hrx⟩ : ∃ r, r = Cl.rround ⟨n, d⟩ (qx - px) := ⟨_, rfl⟩
  obtain ⟨ry, hry⟩ : ∃ r, r = Cl.rround ⟨n, d⟩ (qy - py) := ⟨_, rfl⟩
  have RX : Hid (∀ u, Calls Try.prog 52 #[.int .i64 (n * (qx - px)), .int .i64 d] u fun e w' => e = .returned (.int .i64 rx) ∧ u = w') := Lib.hid (fun u => by rw [hrx]; unfold Cl.rround; simp only; rw [Int.mul_assoc]; exact rround_any _ _ u (by omega) (by omega))
  have RY : Hid (∀ u, Calls Try.prog 52 #[.int .i64 (n * (qy - py)), .int .i64 d] u fun e w' => e = .returned (.int .i64 ry) ∧ u = w') := Lib.hid (fun u => by rw [hry]; unfold Cl.rround; simp only; rw [Int.mul_assoc]; exact rround_any _ _ u (by omega) (by omega))
  rw [← hrx] at bx1 bx2 ⊢
  rw [← hry] at by1 by2 ⊢
  clear hrx hry hp hq hs'
  have w1 : IntKind.i64.wrap (qx - px) = qx - px := IntWalk.i64_in _ (by omega)
  have w2 : IntKind.i64.wrap (qy - py) = qy - py := IntWalk.i64_in _ (by omega)
  have w3 : IntKind.i64.wrap (n * (qx - px)) = n * (qx - px) := IntWalk.i64_in _ (by omega)
  have w4 : IntKind.i64.wrap (n * (qy - py)) = n * (qy - py) := IntWalk.i64_in _ (by omega)
  have w5 : IntKind.i64.wrap (px + rx) = px + rx := IntWalk.i64_in _ (by omega)
  have w6 : IntKind.i64.wrap (py + ry) = py + ry := IntWalk.i64_in _ (by omega)
  go_enter Try.func43, Try.ntmps43
  have k0 : ((((w.alloc (.cells #[.int .i64 px, .int .i64 py] 24)).alloc (.cells #[.int .i64 qx, .int .i64 qy] 24)).alloc (.cells #[.int .i64 n, .int .i64 d] 53)).alloc (.cells #[.int .i64 0, .int .i64 0] 24)).drew.cell? ⟨w.heap.size, 0, none⟩ = some (.int .i64 px) := by go_simp
  have k1 : ((((w.alloc (.cells #[.int .i64 px, .int .i64 py] 24)).alloc (.cells #[.int .i64 qx, .int .i64 qy] 24)).alloc (.cells #[.int .i64 n, .int .i64 d] 53)).alloc (.cells #[.int .i64 0, .int .i64 0] 24)).drew.cell? ⟨w.heap.size, 1, none⟩ = some (.int .i64 py) := by go_simp
  have k2 : ((((w.alloc (.cells #[.int .i64 px, .int .i64 py] 24)).alloc (.cells #[.int .i64 qx, .int .i64 qy] 24)).alloc (.cells #[.int .i64 n, .int .i64 d] 53)).alloc (.cells #[.int .i64 0, .int .i64 0] 24)).drew.cell? ⟨w.heap.size + 1, 0, none⟩ = some (.int .i64 qx) := by go_simp
  have k3 : ((((w.alloc (.cells #[.int .i64 px, .int .i64 py] 24)).alloc (.cells #[.int .i64 qx, .int .i64 qy] 24)).alloc (.cells #[.int .i64 n, .int .i64 d] 53)).alloc (.cells #[.int .i64 0, .int .i64 0] 24)).drew.cell? ⟨w.heap.size + 1, 1, none⟩ = some (.int .i64 qy) := by go_simp
  have k4 : ((((w.alloc (.cells #[.int .i64 px, .int .i64 py] 24)).alloc (.cells #[.int .i64 qx, .int .i64 qy] 24)).alloc (.cells #[.int .i64 n, .int .i64 d] 53)).alloc (.cells #[.int .i64 0, .int .i64 0] 24)).drew.cell? ⟨w.heap.size + 1 + 1, 0, none⟩ = some (.int .i64 n) := by go_simp
  have k5 : ((((w.alloc (.cells #[.int .i64 px, .int .i64 py] 24)).alloc (.cells #[.int .i64 qx, .int .i64 qy] 24)).alloc (.cells #[.int .i64 n, .int .i64 d] 53)).alloc (.cells #[.int .i64 0, .int .i64 0] 24)).drew.cell? ⟨w.heap.size + 1 + 1, 1, none⟩ = some (.int .i64 d) := by go_simp
  have k6 : ((((w.alloc (.cells #[.int .i64 px, .int .i64 py] 24)).alloc (.cells #[.int .i64 qx, .int .i64 qy] 24)).alloc (.cells #[.int .i64 n, .int .i64 d] 53)).alloc (.cells #[.int .i64 0, .int .i64 0] 24)).drew.cell? ⟨w.heap.size + 1 + 1 + 1, 0, none⟩ = some (.int .i64 0) := by go_simp
  have k7 : ((((w.alloc (.cells #[.int .i64 px, .int .i64 py] 24)).alloc (.cells #[.int .i64 qx, .int .i64 qy] 24)).alloc (.cells #[.int .i64 n, .int .i64 d] 53)).alloc (.cells #[.int .i64 0, .int .i64 0] 24)).drew.cell? ⟨w.heap.size + 1 + 1 + 1, 1, none⟩ = some (.int .i64 0) := by go_simp
  have f0 : ((((w.alloc (.cells #[.int .i64 px, .int .i64 py] 24)).alloc (.cells #[.int .i64 qx, .int .i64 qy] 24)).alloc (.cells #[.int .i64 n, .int .i64 d] 53)).alloc (.cells #[.int .i64 0, .int .i64 0] 24)).drew.frozen? ⟨w.heap.size + 1 + 1 + 1, 0, none⟩ = false := by go_simp
  have f1 : ((((w.alloc (.cells #[.int .i64 px, .int .i64 py] 24)).alloc (.cells #[.int .i64 qx, .int .i64 qy] 24)).alloc (.cells #[.int .i64 n, .int .i64 d] 53)).alloc (.cells #[.int .i64 0, .int .i64 0] 24)).drew.frozen? ⟨w.heap.size + 1 + 1 + 1, 1, none⟩ = false := by go_simp
  have DB : Hid (Below w.heap.size w ((((w.alloc (.cells #[.int .i64 px, .int .i64 py] 24)).alloc (.cells #[.int .i64 qx, .int .i64 qy] 24)).alloc (.cells #[.int .i64 n, .int .i64 d] 53)).alloc (.cells #[.int .i64 0, .int .i64 0] 24)).drew) := Lib.hid (((((Below.refl _ _).alloc (Nat.le_refl _) _).alloc (by simp) _).alloc (by simp; omega) _).alloc (by simp; omega) _).drew
  go_wp2_with fail
  refine wp_region_still_tail 29 (by kernel_rfl) (by kernel_rfl) ?_
  simp only [List.take_succ_cons, List.take_zero, List.drop_succ_cons, List.drop_zero]
  change wpStill _ _ ((((w.alloc (.cells #[.int .i64 px, .int .i64 py] 24)).alloc (.cells #[.int .i64 qx, .int .i64 qy] 24)).alloc (.cells #[.int .i64 n, .int .i64 d] 53)).alloc (.cells #[.int .i64 0, .int .i64 0] 24)).drew (fun a' => wpList _ _ _ _ a' ((((w.alloc (.cells #[.int .i64 px, .int .i64 py] 24)).alloc (.cells #[.int .i64 qx, .int .i64 qy] 24)).alloc (.cells #[.int .i64 n, .int .i64 d] 53)).alloc (.cells #[.int .i64 0, .int .i64 0] 24)).drew) _ _
  generalize ((((w.alloc (.cells #[.int .i64 px, .int .i64 py] 24)).alloc (.cells #[.int .i64 qx, .int .i64 qy] 24)).alloc (.cells #[.int .i64 n, .int .i64 d] 53)).alloc (.cells #[.int .i64 0, .int .i64 0] 24)).drew = w9 at *
  iterate 12 still_step
  still_call ((RX.out _).mono fun e w' ⟨h1, h2⟩ => ⟨h1, h2.symm⟩)
  iterate 13 still_step
  still_call ((RY.out _).mono fun e w' ⟨h1, h2⟩ => ⟨h1, h2.symm⟩)
  iterate 2 still_step
  refine wpStill_nil ?_
  go_wp2
  refine bodyPost_ret (v := .agg #[.int .i64 (px + rx), .int .i64 (py + ry)]) (by simp [results, Try.results43, go_sem, k6, k7]) rfl ⟨rfl, ?_⟩
  exact (DB.out.setCell (by simp; omega) _).setCell (by simp; omega) _
end Go.Proofs.Ytdiknijbjmhacaa
