import Derived.Test.YtniklmikdkjgiaaGreatDoorVXK
import Derived.Test.YtniklmikdkjgiaaGreatDoorCYF
import Derived.BigGuard
import Derived.BigCall
set_option linter.all false
set_option maxHeartbeats 16000000
set_option maxRecDepth 100000
namespace Go.Proofs.YtniklmikdkjgiaaGreatDoor
open Go.RowKit
theorem rpub_any (a b : RV) (w : World) (h : RvIs w a) (k : RvIs w b) (ha : RcSz a.c) (hb : RcSz b.c) :
  Calls Tryz.prog 60 #[.agg (rvL a).toArray, .agg (rvL b).toArray] w fun e w' => e = .returned (.bool (pubC a.c b.c)) ∧ Below w.heap.size w w' := by
 obtain ⟨A1, c1, v1, r1⟩ := h.pa
 obtain ⟨A2, c2, v2, r2⟩ := k.pa
 obtain ⟨A3, c3, v3, r3⟩ := h.ed
 obtain ⟨A4, c4, v4, r4⟩ := k.ed
 have SO : Hid (pubC a.c b.c = (decide (a.kind = b.kind) && (decide (a.author = b.author) && (decide (a.number = b.number) && (decide (a.clock = b.clock) && (decide (a.branch = b.branch) && (decide (a.parents = b.parents) && (all2 (fun a b => sameE a.c b.c) a.edits b.edits && (decide (a.target = b.target) && (decide (a.yes = b.yes) && (decide (a.order = b.order) && decide (a.frm = b.frm)))))))))))) := Lib.hid (by
  rw [show pubC a.c b.c = (decide (a.kind = b.kind) && decide (a.author = b.author) && decide (a.number = b.number) && decide (a.clock = b.clock) && decide (a.branch = b.branch) && decide (a.parents = b.parents) && all2 sameE (edsC a.edits) (edsC b.edits) && decide (a.target = b.target) && decide (a.yes = b.yes) && decide (a.order = b.order) && decide (a.frm = b.frm)) from rfl]
  rw [show all2 sameE (edsC a.edits) (edsC b.edits) = all2 (fun a b => sameE a.c b.c) a.edits b.edits from all2_map _ _ _ _]
  simp only [Bool.and_assoc])
 obtain ⟨W, hW⟩ : ∃ W, W = (w.alloc (.cells (rvL a).toArray 56)).alloc (.cells (rvL b).toArray 56) := ⟨_, rfl⟩
 have BW : Hid (Below w.heap.size w W) := Lib.hid (by rw [hW]; exact ((Below.refl _ _).alloc (Nat.le_refl _) _).alloc (by simp) _)
 have HX : Hid (W.heap[w.heap.size]? = some (.cells (rvL a).toArray 56 (0, 0))) := Lib.hid (by rw [hW]; exact (alloc_old _ _ (by simp)).trans (heap_alloc_new w _))
 have HY : Hid (W.heap[w.heap.size + 1]? = some (.cells (rvL b).toArray 56 (0, 0))) := Lib.hid (by rw [hW]; exact alloc_new' _ _ _ (by simp))
 have HZ : W.heap.size = w.heap.size + 2 := by rw [hW]; simp
 have BA : Hid (∀ u, OldB W u → Below w.heap.size w u) := Lib.hid (fun u hu => BW.out.trans (Below.mono hu BW.out.size))
 have XA := fun u (hu : OldB W u) => (hu.block w.heap.size (by omega)).trans HX.out
 have XB := fun u (hu : OldB W u) => (hu.block (w.heap.size + 1) (by omega)).trans HY.out
 have SW : OldB W W := Below.refl _ _
 have a0 : ∀ u, OldB W u → u.cell? ⟨w.heap.size, 0, none⟩ = some (.int .i64 a.kind) := fun u hu => load_block (XA u hu) (by rfl)
 have a1 : ∀ u, OldB W u → u.cell? ⟨w.heap.size, 1, none⟩ = some (.int .i64 a.author) := fun u hu => load_block (XA u hu) (by rfl)
 have a2 : ∀ u, OldB W u → u.cell? ⟨w.heap.size, 2, none⟩ = some (.int .i64 a.number) := fun u hu => load_block (XA u hu) (by rfl)
 have a3 : ∀ u, OldB W u → u.cell? ⟨w.heap.size, 3, none⟩ = some (.int .i64 a.clock) := fun u hu => load_block (XA u hu) (by rfl)
 have a4 : ∀ u, OldB W u → u.cell? ⟨w.heap.size, 4, none⟩ = some (.string (mkB a.branch)) := fun u hu => load_block (XA u hu) (by rfl)
 have a7 : ∀ u, OldB W u → u.cell? ⟨w.heap.size, 7, none⟩ = some (.string (mkB a.target)) := fun u hu => load_block (XA u hu) (by rfl)
 have a8 : ∀ u, OldB W u → u.cell? ⟨w.heap.size, 8, none⟩ = some (.bool a.yes) := fun u hu => load_block (XA u hu) (by rfl)
 have a9 : ∀ u, OldB W u → u.cell? ⟨w.heap.size, 9, none⟩ = some (.int .i64 a.order) := fun u hu => load_block (XA u hu) (by rfl)
 have a10 : ∀ u, OldB W u → u.cell? ⟨w.heap.size, 10, none⟩ = some (.string (mkB a.frm)) := fun u hu => load_block (XA u hu) (by rfl)
 have b0 : ∀ u, OldB W u → u.cell? ⟨w.heap.size + 1, 0, none⟩ = some (.int .i64 b.kind) := fun u hu => load_block (XB u hu) (by rfl)
 have b1 : ∀ u, OldB W u → u.cell? ⟨w.heap.size + 1, 1, none⟩ = some (.int .i64 b.author) := fun u hu => load_block (XB u hu) (by rfl)
 have b2 : ∀ u, OldB W u → u.cell? ⟨w.heap.size + 1, 2, none⟩ = some (.int .i64 b.number) := fun u hu => load_block (XB u hu) (by rfl)
 have b3 : ∀ u, OldB W u → u.cell? ⟨w.heap.size + 1, 3, none⟩ = some (.int .i64 b.clock) := fun u hu => load_block (XB u hu) (by rfl)
 have b4 : ∀ u, OldB W u → u.cell? ⟨w.heap.size + 1, 4, none⟩ = some (.string (mkB b.branch)) := fun u hu => load_block (XB u hu) (by rfl)
 have b7 : ∀ u, OldB W u → u.cell? ⟨w.heap.size + 1, 7, none⟩ = some (.string (mkB b.target)) := fun u hu => load_block (XB u hu) (by rfl)
 have b8 : ∀ u, OldB W u → u.cell? ⟨w.heap.size + 1, 8, none⟩ = some (.bool b.yes) := fun u hu => load_block (XB u hu) (by rfl)
 have b9 : ∀ u, OldB W u → u.cell? ⟨w.heap.size + 1, 9, none⟩ = some (.int .i64 b.order) := fun u hu => load_block (XB u hu) (by rfl)
 have b10 : ∀ u, OldB W u → u.cell? ⟨w.heap.size + 1, 10, none⟩ = some (.string (mkB b.frm)) := fun u hu => load_block (XB u hu) (by rfl)
 have a5 : ∀ u, OldB W u → u.cell? ⟨w.heap.size, 5, none⟩ = some (.slice A1 a.parents.length c1) := fun u hu => by rw [← v1]; exact load_block (XA u hu) (by rfl)
 have b5 : ∀ u, OldB W u → u.cell? ⟨w.heap.size + 1, 5, none⟩ = some (.slice A2 b.parents.length c2) := fun u hu => by rw [← v2]; exact load_block (XB u hu) (by rfl)
 have a6 : ∀ u, OldB W u → u.cell? ⟨w.heap.size, 6, none⟩ = some (.slice A3 a.edits.length c3) := fun u hu => by rw [← v3]; exact load_block (XA u hu) (by rfl)
 have b6 : ∀ u, OldB W u → u.cell? ⟨w.heap.size + 1, 6, none⟩ = some (.slice A4 b.edits.length c4) := fun u hu => by rw [← v4]; exact load_block (XB u hu) (by rfl)
 have ta_branch := mkB_tl a.branch
 have tb_branch := mkB_tl b.branch
 have ta_target := mkB_tl a.target
 have tb_target := mkB_tl b.target
 have ta_frm := mkB_tl a.frm
 have tb_frm := mkB_tl b.frm
 have E1 : Hid (∀ u, OldB W u → Calls Tryz.prog 102 #[.slice A1 a.parents.length c1, .slice A2 b.parents.length c2] u fun e w' => e = .returned (.bool (decide (a.parents = b.parents))) ∧ Below u.heap.size u w') := Lib.hid (fun u hu => rstrs_any A1 A2 c1 c2 a.parents b.parents _ _ u rfl rfl ha.parents hb.parents (r1.below (BA.out u hu)) (r2.below (BA.out u hu)))
 have E2 : Hid (∀ u, OldB W u → Calls Tryz.prog 70 #[.slice A3 a.edits.length c3, .slice A4 b.edits.length c4] u fun e w' => e = .returned (.bool (all2 (fun a b => sameE a.c b.c) a.edits b.edits)) ∧ Below u.heap.size u w') := Lib.hid (fun u hu => redits_any A3 A4 c3 c4 a.edits b.edits _ _ u rfl rfl (r3.below (BA.out u hu)) (r4.below (BA.out u hu)))
 generalize pubC a.c b.c = R at *
 generalize decide (a.parents = b.parents) = q1 at *
 generalize all2 (fun a b => sameE a.c b.c) a.edits b.edits = q2 at *
 generalize (rvL a).toArray = xa at *
 generalize (rvL b).toArray = xb at *
 clear h k ha hb v1 v2 v3 v4 r1 r2 r3 r4 XA XB HX HY HZ BW
 go_enter Tryz.func60, Tryz.ntmps60
 go_upto_region 0 with fail
 refine wp_region_lit ?_
 go_step
 go_step
 go_step
 go_step
 go_step
 rw [← hW]
 clear hW
 by_cases h : a.kind = b.kind
 ·have e1 : (a.kind == b.kind) = true := by rw [h]; simp
  have SO1 : Hid (R = (decide (a.author = b.author) && (decide (a.number = b.number) && (decide (a.clock = b.clock) && (decide (a.branch = b.branch) && (q1 && (q2 && (decide (a.target = b.target) && (decide (a.yes = b.yes) && (decide (a.order = b.order) && decide (a.frm = b.frm))))))))))) := Lib.hid (by rw [SO.out, decide_eq_true h, Bool.true_and])
  clear SO h
  by_cases h : a.author = b.author
  ·have e2 : (a.author == b.author) = true := by rw [h]; simp
   have SO2 : Hid (R = (decide (a.number = b.number) && (decide (a.clock = b.clock) && (decide (a.branch = b.branch) && (q1 && (q2 && (decide (a.target = b.target) && (decide (a.yes = b.yes) && (decide (a.order = b.order) && decide (a.frm = b.frm)))))))))) := Lib.hid (by rw [SO1.out, decide_eq_true h, Bool.true_and])
   clear SO1 h
   by_cases h : a.number = b.number
   ·have e3 : (a.number == b.number) = true := by rw [h]; simp
    have SO3 : Hid (R = (decide (a.clock = b.clock) && (decide (a.branch = b.branch) && (q1 && (q2 && (decide (a.target = b.target) && (decide (a.yes = b.yes) && (decide (a.order = b.order) && decide (a.frm = b.frm))))))))) := Lib.hid (by rw [SO2.out, decide_eq_true h, Bool.true_and])
    clear SO2 h
    by_cases h : a.clock = b.clock
    ·have e4 : (a.clock == b.clock) = true := by rw [h]; simp
     have SO4 : Hid (R = (decide (a.branch = b.branch) && (q1 && (q2 && (decide (a.target = b.target) && (decide (a.yes = b.yes) && (decide (a.order = b.order) && decide (a.frm = b.frm)))))))) := Lib.hid (by rw [SO3.out, decide_eq_true h, Bool.true_and])
     clear SO3 h
     by_cases h : a.branch = b.branch
     ·have e5 : (a.branch == b.branch) = true := by rw [h]; simp
      have SO5 : Hid (R = (q1 && (q2 && (decide (a.target = b.target) && (decide (a.yes = b.yes) && (decide (a.order = b.order) && decide (a.frm = b.frm))))))) := Lib.hid (by rw [SO4.out, decide_eq_true h, Bool.true_and])
      clear SO4 h
      go_wp2_with fail
      (with_reducible refine (E1.out _ SW).mono ?_)
      rintro e u6 ⟨rfl, d6⟩
      have O6 : OldB W u6 := SW.then d6
      clear d6 SW
      cases q1
      ·have RF : Hid (R = false) := Lib.hid (by rw [SO5.out, Bool.false_and])
       clear SO5
       go_wp2_with fail
       go_ret
       exact ⟨by rw [RF.out]; rfl, BA.out _ O6⟩
      ·have SO6 : Hid (R = (q2 && (decide (a.target = b.target) && (decide (a.yes = b.yes) && (decide (a.order = b.order) && decide (a.frm = b.frm)))))) := Lib.hid (by rw [SO5.out, Bool.true_and])
       clear SO5
       go_wp2_with fail
       (with_reducible refine (E2.out _ O6).mono ?_)
       rintro e u7 ⟨rfl, d7⟩
       have O7 : OldB W u7 := O6.then d7
       clear d7 O6
       cases q2
       ·have RF : Hid (R = false) := Lib.hid (by rw [SO6.out, Bool.false_and])
        clear SO6
        go_wp2_with fail
        go_ret
        exact ⟨by rw [RF.out]; rfl, BA.out _ O7⟩
       ·have SO7 : Hid (R = (decide (a.target = b.target) && (decide (a.yes = b.yes) && (decide (a.order = b.order) && decide (a.frm = b.frm))))) := Lib.hid (by rw [SO6.out, Bool.true_and])
        clear SO6
        by_cases h : a.target = b.target
        ·have e8 : (a.target == b.target) = true := by rw [h]; simp
         have SO8 : Hid (R = (decide (a.yes = b.yes) && (decide (a.order = b.order) && decide (a.frm = b.frm)))) := Lib.hid (by rw [SO7.out, decide_eq_true h, Bool.true_and])
         clear SO7 h
         by_cases h : a.yes = b.yes
         ·have e9 : (a.yes == b.yes) = true := by rw [h]; simp
          have SO9 : Hid (R = (decide (a.order = b.order) && decide (a.frm = b.frm))) := Lib.hid (by rw [SO8.out, decide_eq_true h, Bool.true_and])
          clear SO8 h
          by_cases h : a.order = b.order
          ·have e10 : (a.order == b.order) = true := by rw [h]; simp
           have SO10 : Hid (R = decide (a.frm = b.frm)) := Lib.hid (by rw [SO9.out, decide_eq_true h, Bool.true_and])
           clear SO9 h
           by_cases h : a.frm = b.frm
           ·have e11 : (a.frm == b.frm) = true := by rw [h]; simp
            have SO11 : Hid (R = true) := Lib.hid (by rw [SO10.out, decide_eq_true h])
            clear SO10 h
            go_wp2_with fail
            go_ret
            exact ⟨by rw [SO11.out]; rfl, BA.out _ O7⟩
           ·have e11 : (a.frm == b.frm) = false := by simpa using h
            have RF : Hid (R = false) := Lib.hid (by rw [SO10.out, decide_eq_false h])
            clear SO10 h
            go_wp2_with fail
            go_ret
            exact ⟨by rw [RF.out]; rfl, BA.out _ O7⟩
          ·have e10 : (a.order == b.order) = false := by simpa using h
           have RF : Hid (R = false) := Lib.hid (by rw [SO9.out, decide_eq_false h, Bool.false_and])
           clear SO9 h
           go_wp2_with fail
           go_ret
           exact ⟨by rw [RF.out]; rfl, BA.out _ O7⟩
         ·have e9 : (a.yes == b.yes) = false := by simpa using h
          have RF : Hid (R = false) := Lib.hid (by rw [SO8.out, decide_eq_false h, Bool.false_and])
          clear SO8 h
          go_wp2_with fail
          go_ret
          exact ⟨by rw [RF.out]; rfl, BA.out _ O7⟩
        ·have e8 : (a.target == b.target) = false := by simpa using h
         have RF : Hid (R = false) := Lib.hid (by rw [SO7.out, decide_eq_false h, Bool.false_and])
         clear SO7 h
         go_wp2_with fail
         go_ret
         exact ⟨by rw [RF.out]; rfl, BA.out _ O7⟩
     ·have e5 : (a.branch == b.branch) = false := by simpa using h
      have RF : Hid (R = false) := Lib.hid (by rw [SO4.out, decide_eq_false h, Bool.false_and])
      clear SO4 h
      go_wp2_with fail
      go_ret
      exact ⟨by rw [RF.out]; rfl, BA.out _ SW⟩
    ·have e4 : (a.clock == b.clock) = false := by simpa using h
     have RF : Hid (R = false) := Lib.hid (by rw [SO3.out, decide_eq_false h, Bool.false_and])
     clear SO3 h
     go_wp2_with fail
     go_ret
     exact ⟨by rw [RF.out]; rfl, BA.out _ SW⟩
   ·have e3 : (a.number == b.number) = false := by simpa using h
    have RF : Hid (R = false) := Lib.hid (by rw [SO2.out, decide_eq_false h, Bool.false_and])
    clear SO2 h
    go_wp2_with fail
    go_ret
    exact ⟨by rw [RF.out]; rfl, BA.out _ SW⟩
  ·have e2 : (a.author == b.author) = false := by simpa using h
   have RF : Hid (R = false) := Lib.hid (by rw [SO1.out, decide_eq_false h, Bool.false_and])
   clear SO1 h
   go_wp2_with fail
   go_ret
   exact ⟨by rw [RF.out]; rfl, BA.out _ SW⟩
 ·have e1 : (a.kind == b.kind) = false := by simpa using h
  have RF : Hid (R = false) := Lib.hid (by rw [SO.out, decide_eq_false h, Bool.false_and])
  clear SO h
  go_wp2_with fail
  go_ret
  exact ⟨by rw [RF.out]; rfl, BA.out _ SW⟩
end Go.Proofs.YtniklmikdkjgiaaGreatDoor
