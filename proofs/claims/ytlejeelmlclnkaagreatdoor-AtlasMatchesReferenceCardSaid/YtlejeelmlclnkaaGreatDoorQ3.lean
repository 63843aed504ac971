/- WALKS: the table of digits (printed by gen_q3.py). -/
import Derived.Test.YtlejeelmlclnkaaGreatDoorQ2
set_option linter.unusedSimpArgs false
set_option linter.unusedVariables false
namespace Go.Proofs.YtlejeelmlclnkaaGreatDoor
open Go.RowKit

def hexV (j : Nat) : Value := .int .u8 ((Dg.hexd j).toNat : Int)
def dgRow (k : Nat) : Array Value := ((List.range 16).map fun j => if j < k then hexV j else .int .u8 0).toArray
def hexRow : Array Value := #[.int .u8 48, .int .u8 49, .int .u8 50, .int .u8 51, .int .u8 52, .int .u8 53, .int .u8 54, .int .u8 55, .int .u8 56, .int .u8 57, .int .u8 97, .int .u8 98, .int .u8 99, .int .u8 100, .int .u8 101, .int .u8 102]
theorem dgRow_zero : dgRow 0 = #[.int .u8 0, .int .u8 0, .int .u8 0, .int .u8 0, .int .u8 0, .int .u8 0, .int .u8 0, .int .u8 0, .int .u8 0, .int .u8 0, .int .u8 0, .int .u8 0, .int .u8 0, .int .u8 0, .int .u8 0, .int .u8 0] := rfl
theorem dgRow_full : dgRow 16 = hexRow := rfl
theorem row_put {w : World} {g k : Nat} {cs : Array Value} {t : TypeId} (h : w.heap[g]? = some (.cells cs t (0, 0))) (u : Value) : (w.setCell ⟨g, k, none⟩ u).heap[g]? = some (.cells (cs.setIfInBounds k u) t (0, 0)) := by simp [World.setCell, Array.getElem?_modify, h]
theorem lt16 {k : Nat} (h : k < 16) : k = 0 ∨ k = 1 ∨ k = 2 ∨ k = 3 ∨ k = 4 ∨ k = 5 ∨ k = 6 ∨ k = 7 ∨ k = 8 ∨ k = 9 ∨ k = 10 ∨ k = 11 ∨ k = 12 ∨ k = 13 ∨ k = 14 ∨ k = 15 := by omega
theorem dgRow_low {k : Nat} (hk : k < 10) : (dgRow k).setIfInBounds k (.int .u8 (48 + (k : Int))) = dgRow (k + 1) := by
  rcases lt16 (show k < 16 by omega) with rfl | rfl | rfl | rfl | rfl | rfl | rfl | rfl | rfl | rfl | rfl | rfl | rfl | rfl | rfl | rfl <;> first | rfl | omega
theorem dgRow_high {k : Nat} (hk : k < 16) (h10 : ¬ k < 10) (u : Value) : ((dgRow k).setIfInBounds k u).setIfInBounds k (.int .u8 (97 + (k : Int) - 10)) = dgRow (k + 1) := by
  rcases lt16 hk with rfl | rfl | rfl | rfl | rfl | rfl | rfl | rfl | rfl | rfl | rfl | rfl | rfl | rfl | rfl | rfl <;> first | rfl | omega
theorem dgRow_at {k : Nat} (hk : k < 16) : (dgRow k)[k]? = some (.int .u8 0) := by
  rcases lt16 hk with rfl | rfl | rfl | rfl | rfl | rfl | rfl | rfl | rfl | rfl | rfl | rfl | rfl | rfl | rfl | rfl <;> rfl
set_option maxHeartbeats 4000000 in
theorem digits_any (w : World) : Calls Tryz.prog 62 #[] w fun e w' => e = .returned (.agg hexRow) ∧ Below w.heap.size w w' := by
  obtain ⟨W, hW⟩ : ∃ W, W = (w.alloc (.cells #[.int .u8 0, .int .u8 0, .int .u8 0, .int .u8 0, .int .u8 0, .int .u8 0, .int .u8 0, .int .u8 0, .int .u8 0, .int .u8 0, .int .u8 0, .int .u8 0, .int .u8 0, .int .u8 0, .int .u8 0, .int .u8 0] 91)).alloc (.cells #[.int .u8 0, .int .u8 0, .int .u8 0, .int .u8 0, .int .u8 0, .int .u8 0, .int .u8 0, .int .u8 0, .int .u8 0, .int .u8 0, .int .u8 0, .int .u8 0, .int .u8 0, .int .u8 0, .int .u8 0, .int .u8 0] 91) := ⟨_, rfl⟩
  have HR : Hid (W.heap[w.heap.size]? = some (.cells #[.int .u8 0, .int .u8 0, .int .u8 0, .int .u8 0, .int .u8 0, .int .u8 0, .int .u8 0, .int .u8 0, .int .u8 0, .int .u8 0, .int .u8 0, .int .u8 0, .int .u8 0, .int .u8 0, .int .u8 0, .int .u8 0] 91 (0, 0))) := Lib.hid (by rw [hW]; exact (alloc_old _ _ (by simp)).trans (heap_alloc_new w _))
  have HO : Hid (W.heap[w.heap.size + 1]? = some (.cells (dgRow 0) 91 (0, 0))) := Lib.hid (by rw [hW, dgRow_zero]; exact alloc_new' _ _ _ (by simp))
  have HB : Hid (Below w.heap.size w W) := Lib.hid (by rw [hW]; exact ((Below.refl _ _).alloc (Nat.le_refl _) _).alloc (by simp) _)
  obtain ⟨g, hg⟩ : ∃ g, w.heap.size = g := ⟨_, rfl⟩
  rw [hg] at HR HO
  go_enter Tryz.func62, Tryz.ntmps62
  go_wp2_with fail
  rw [← hW]
  clear hW
  go_loopw [3] (fun s3 wr => ∃ k : Nat, k ≤ 16 ∧ s3 = .int .i64 k ∧ Hid (wr.heap[g + 1]? = some (.cells (dgRow k) 91 (0, 0))) ∧ Hid (wr.heap[g]? = some (.cells #[.int .u8 0, .int .u8 0, .int .u8 0, .int .u8 0, .int .u8 0, .int .u8 0, .int .u8 0, .int .u8 0, .int .u8 0, .int .u8 0, .int .u8 0, .int .u8 0, .int .u8 0, .int .u8 0, .int .u8 0, .int .u8 0] 91 (0, 0))) ∧ Hid (Below w.heap.size w wr)) (fun i _ => 16 - (intOf i).toNat)
  case atStart => exact ⟨0, by omega, rfl, HO, HR, HB⟩
  case round =>
    clear HO HR HB
    obtain ⟨k, hk, rfl, ho, hr, hb⟩ := hrel
    by_cases hlt : k < 16
    · have hc := (cell_of_row wr (g + 1) k _ _ _ ho.out).trans (dgRow_at hlt)
      have hf := free_blk ho.out k
      have d1 : decide ((k : Int) < 16) = true := by simp; omega
      have w1 : IntKind.u8.wrap (48 + (k : Int)) = 48 + (k : Int) := by simp [IntKind.wrap, IntKind.bits, IntKind.signed]; omega
      by_cases h10 : k < 10
      · have d2 : decide ((10 : Int) ≤ (k : Int)) = false := by simp; omega
        have d3 : decide (10 ≤ k) = false := by simp; omega
        have LOW := Lib.hid (dgRow_low h10)
        go_wp2_with fail
        exact ⟨⟨k + 1, by omega, by go_num, Lib.hid (by rw [← LOW.out]; exact row_put ho.out _), Lib.hid ((Below.heap_setCell _ _ _ _ (by show g ≠ g + 1; omega)).trans hr.out), Lib.hid (hb.out.setCell (by show w.heap.size ≤ g + 1; omega) _)⟩, by simp [intOf]; omega⟩
      · have d2 : decide ((10 : Int) ≤ (k : Int)) = true := by simp; omega
        have d3 : decide (10 ≤ k) = true := by simp; omega
        have w2 : IntKind.u8.wrap (97 + (k : Int) - 10) = 97 + (k : Int) - 10 := by simp [IntKind.wrap, IntKind.bits, IntKind.signed]; omega
        have HI := Lib.hid (dgRow_high hlt h10 (.int .u8 (48 + (k : Int))))
        go_wp2_with fail
        exact ⟨⟨k + 1, by omega, by go_num, Lib.hid (by rw [← HI.out]; exact row_put (row_put ho.out _) _), Lib.hid ((Below.heap_setCell _ _ _ _ (by show g ≠ g + 1; omega)).trans ((Below.heap_setCell _ _ _ _ (by show g ≠ g + 1; omega)).trans hr.out)), Lib.hid ((hb.out.setCell (by show w.heap.size ≤ g + 1; omega) _).setCell (by show w.heap.size ≤ g + 1; omega) _)⟩, by simp [intOf]; omega⟩
    · have hk16 : k = 16 := by omega
      subst hk16
      have ho' := ho.out
      rw [dgRow_full] at ho'
      unfold hexRow at ho'
      skip
      have c0 := cell_of_row wr (g + 1) 0 _ _ _ ho'
      have c1 := cell_of_row wr (g + 1) 1 _ _ _ ho'
      have c2 := cell_of_row wr (g + 1) 2 _ _ _ ho'
      have c3 := cell_of_row wr (g + 1) 3 _ _ _ ho'
      have c4 := cell_of_row wr (g + 1) 4 _ _ _ ho'
      have c5 := cell_of_row wr (g + 1) 5 _ _ _ ho'
      have c6 := cell_of_row wr (g + 1) 6 _ _ _ ho'
      have c7 := cell_of_row wr (g + 1) 7 _ _ _ ho'
      have c8 := cell_of_row wr (g + 1) 8 _ _ _ ho'
      have c9 := cell_of_row wr (g + 1) 9 _ _ _ ho'
      have c10 := cell_of_row wr (g + 1) 10 _ _ _ ho'
      have c11 := cell_of_row wr (g + 1) 11 _ _ _ ho'
      have c12 := cell_of_row wr (g + 1) 12 _ _ _ ho'
      have c13 := cell_of_row wr (g + 1) 13 _ _ _ ho'
      have c14 := cell_of_row wr (g + 1) 14 _ _ _ ho'
      have c15 := cell_of_row wr (g + 1) 15 _ _ _ ho'
      have r0 := cell_of_row wr g 0 _ _ _ hr.out
      have r1 := cell_of_row wr g 1 _ _ _ hr.out
      have r2 := cell_of_row wr g 2 _ _ _ hr.out
      have r3 := cell_of_row wr g 3 _ _ _ hr.out
      have r4 := cell_of_row wr g 4 _ _ _ hr.out
      have r5 := cell_of_row wr g 5 _ _ _ hr.out
      have r6 := cell_of_row wr g 6 _ _ _ hr.out
      have r7 := cell_of_row wr g 7 _ _ _ hr.out
      have r8 := cell_of_row wr g 8 _ _ _ hr.out
      have r9 := cell_of_row wr g 9 _ _ _ hr.out
      have r10 := cell_of_row wr g 10 _ _ _ hr.out
      have r11 := cell_of_row wr g 11 _ _ _ hr.out
      have r12 := cell_of_row wr g 12 _ _ _ hr.out
      have r13 := cell_of_row wr g 13 _ _ _ hr.out
      have r14 := cell_of_row wr g 14 _ _ _ hr.out
      have r15 := cell_of_row wr g 15 _ _ _ hr.out
      have f0 := free_blk hr.out 0
      have f1 := free_blk hr.out 1
      have f2 := free_blk hr.out 2
      have f3 := free_blk hr.out 3
      have f4 := free_blk hr.out 4
      have f5 := free_blk hr.out 5
      have f6 := free_blk hr.out 6
      have f7 := free_blk hr.out 7
      have f8 := free_blk hr.out 8
      have f9 := free_blk hr.out 9
      have f10 := free_blk hr.out 10
      have f11 := free_blk hr.out 11
      have f12 := free_blk hr.out 12
      have f13 := free_blk hr.out 13
      have f14 := free_blk hr.out 14
      have f15 := free_blk hr.out 15
      simp at c0 c1 c2 c3 c4 c5 c6 c7 c8 c9 c10 c11 c12 c13 c14 c15 r0 r1 r2 r3 r4 r5 r6 r7 r8 r9 r10 r11 r12 r13 r14 r15
      clear ho' ho
      go_wp2_with fail
      refine bodyPost_ret (v := .agg #[.int .u8 48, .int .u8 49, .int .u8 50, .int .u8 51, .int .u8 52, .int .u8 53, .int .u8 54, .int .u8 55, .int .u8 56, .int .u8 57, .int .u8 97, .int .u8 98, .int .u8 99, .int .u8 100, .int .u8 101, .int .u8 102]) (by simp [results, Tryz.results62, go_sem, r0, r1, r2, r3, r4, r5, r6, r7, r8, r9, r10, r11, r12, r13, r14, r15]) rfl ⟨rfl, ?_⟩
      repeat (refine Below.setCell ?_ (by show w.heap.size ≤ g; omega) _)
      exact hb.out
end Go.Proofs.YtlejeelmlclnkaaGreatDoor
