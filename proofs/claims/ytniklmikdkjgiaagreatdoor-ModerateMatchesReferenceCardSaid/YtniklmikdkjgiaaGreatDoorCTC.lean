import Derived.Test.YtniklmikdkjgiaaGreatDoorCXI
import Derived.Laws.BytesArg
set_option linter.all false
set_option maxHeartbeats 16000000
set_option maxRecDepth 100000
namespace Go.Proofs.YtniklmikdkjgiaaGreatDoor
open Go.RowKit
def rbareV (e : EV) : EV :=
 ⟨e.op, if e.op = 1 then e.id else [], if e.op = 6 ∨ e.op = 7 then [] else e.other, if e.op = 6 then [] else e.node, if e.op = 2 then 0 else e.x, if e.op = 2 then 0 else e.y, if e.op = 3 then [] else e.key, if e.op = 3 then [] else e.value, if e.op = 4 then [] else e.refs, if e.op = 4 then .slice none 0 0 else e.rv, if e.op = 1 then zRO else e.o⟩
theorem rbare_1 (e : EV) (w : World) (h : EvIs w e) (hop : e.op = 1) :
  Calls Tryz.prog 206 #[evA e] w fun en w' => en = .returned (evA (rbareV e)) ∧ Below w.heap.size w w' := by
 have e1 : (e.op == 1) = true := by rw [hop]; rfl
 have G2 : ¬ e.op = 2 := by rw [hop]; decide
 have e2 : (e.op == 2) = false := by simpa using G2
 have G3 : ¬ e.op = 3 := by rw [hop]; decide
 have e3 : (e.op == 3) = false := by simpa using G3
 have G4 : ¬ e.op = 4 := by rw [hop]; decide
 have e4 : (e.op == 4) = false := by simpa using G4
 have G6 : ¬ e.op = 6 := by rw [hop]; decide
 have e6 : (e.op == 6) = false := by simpa using G6
 have G7 : ¬ e.op = 7 := by rw [hop]; decide
 have e7 : (e.op == 7) = false := by simpa using G7
 have GP := hop
 obtain ⟨⟨A1, c1, v1, r1⟩, ho1⟩ := id h
 obtain ⟨⟨A3, c3, v3, -⟩, ⟨A4, c4, v4, -⟩⟩ := id ho1
 have hv : evA e = .agg #[.int .i64 e.op, .string (mkB e.id), .string (mkB e.other), .string (mkB e.node), .int .i64 e.x, .int .i64 e.y, .string (mkB e.key), .string (mkB e.value), .slice A1 e.refs.length c1, .string (mkB e.o.c.id), .int .i64 e.o.c.kind, .int .i64 e.o.c.x, .int .i64 e.o.c.y, .slice A3 e.o.c.refs.length c3, .slice A4 e.o.c.tags.length c4] := by unfold evA evL; rw [v1, v3, v4]
 have hb : evA (rbareV e) = .agg #[.int .i64 e.op, .string (mkB e.id), .string (mkB e.other), .string (mkB e.node), .int .i64 e.x, .int .i64 e.y, .string (mkB e.key), .string (mkB e.value), .slice A1 e.refs.length c1, .string ⟨#[]⟩, .int .i64 0, .int .i64 0, .int .i64 0, .slice none 0 0, .slice none 0 0] := by
  unfold evA evL rbareV
  dsimp only
  simp only [hop, if_true, if_false, or_false, false_or, or_true, true_or, v1, v3, v4, zRO]
  try simp
  try rfl
  all_goals (repeat' (first | rfl | assumption | constructor))
 rw [hv, hb]
 obtain ⟨X, hX⟩ : ∃ X, X = (w.alloc (.cells #[.int .i64 e.op, .string (mkB e.id), .string (mkB e.other), .string (mkB e.node), .int .i64 e.x, .int .i64 e.y, .string (mkB e.key), .string (mkB e.value), .slice A1 e.refs.length c1, .string (mkB e.o.c.id), .int .i64 e.o.c.kind, .int .i64 e.o.c.x, .int .i64 e.o.c.y, .slice A3 e.o.c.refs.length c3, .slice A4 e.o.c.tags.length c4] 93)).alloc (.cells #[.int .i64 0, .string ⟨#[]⟩, .string ⟨#[]⟩, .string ⟨#[]⟩, .int .i64 0, .int .i64 0, .string ⟨#[]⟩, .string ⟨#[]⟩, .slice none 0 0, .string ⟨#[]⟩, .int .i64 0, .int .i64 0, .int .i64 0, .slice none 0 0, .slice none 0 0] 93) := ⟨_, rfl⟩
 have BX : Below w.heap.size w X := by rw [hX]; exact ((Below.refl _ _).alloc (Nat.le_refl _) _).alloc (by simp) _
 have E0 : X.heap[w.heap.size]? = some (.cells #[.int .i64 e.op, .string (mkB e.id), .string (mkB e.other), .string (mkB e.node), .int .i64 e.x, .int .i64 e.y, .string (mkB e.key), .string (mkB e.value), .slice A1 e.refs.length c1, .string (mkB e.o.c.id), .int .i64 e.o.c.kind, .int .i64 e.o.c.x, .int .i64 e.o.c.y, .slice A3 e.o.c.refs.length c3, .slice A4 e.o.c.tags.length c4] 93 (0, 0)) := by rw [hX]; exact (alloc_old _ _ (by simp)).trans (heap_alloc_new w _)
 have E1 : X.heap[w.heap.size + 1]? = some (.cells #[.int .i64 0, .string ⟨#[]⟩, .string ⟨#[]⟩, .string ⟨#[]⟩, .int .i64 0, .int .i64 0, .string ⟨#[]⟩, .string ⟨#[]⟩, .slice none 0 0, .string ⟨#[]⟩, .int .i64 0, .int .i64 0, .int .i64 0, .slice none 0 0, .slice none 0 0] 93 (0, 0)) := by rw [hX]; exact alloc_new' _ _ _ (by simp)
 have EF : ((((((X.setCell ⟨w.heap.size, 9, none⟩ (.string ⟨#[]⟩)).setCell ⟨w.heap.size, 10, none⟩ (.int .i64 0)).setCell ⟨w.heap.size, 11, none⟩ (.int .i64 0)).setCell ⟨w.heap.size, 12, none⟩ (.int .i64 0)).setCell ⟨w.heap.size, 13, none⟩ (.slice none 0 0)).setCell ⟨w.heap.size, 14, none⟩ (.slice none 0 0)).heap[w.heap.size]? = some (.cells #[.int .i64 e.op, .string (mkB e.id), .string (mkB e.other), .string (mkB e.node), .int .i64 e.x, .int .i64 e.y, .string (mkB e.key), .string (mkB e.value), .slice A1 e.refs.length c1, .string ⟨#[]⟩, .int .i64 0, .int .i64 0, .int .i64 0, .slice none 0 0, .slice none 0 0] 93 (0, 0)) := row_put8 (g := w.heap.size) (k := 14) (row_put8 (g := w.heap.size) (k := 13) (row_put8 (g := w.heap.size) (k := 12) (row_put8 (g := w.heap.size) (k := 11) (row_put8 (g := w.heap.size) (k := 10) (row_put8 (g := w.heap.size) (k := 9) (E0) (.string ⟨#[]⟩)) (.int .i64 0)) (.int .i64 0)) (.int .i64 0)) (.slice none 0 0)) (.slice none 0 0)
 have EG : ((((((X.setCell ⟨w.heap.size, 9, none⟩ (.string ⟨#[]⟩)).setCell ⟨w.heap.size, 10, none⟩ (.int .i64 0)).setCell ⟨w.heap.size, 11, none⟩ (.int .i64 0)).setCell ⟨w.heap.size, 12, none⟩ (.int .i64 0)).setCell ⟨w.heap.size, 13, none⟩ (.slice none 0 0)).setCell ⟨w.heap.size, 14, none⟩ (.slice none 0 0)).heap[w.heap.size + 1]? = some (.cells #[.int .i64 0, .string ⟨#[]⟩, .string ⟨#[]⟩, .string ⟨#[]⟩, .int .i64 0, .int .i64 0, .string ⟨#[]⟩, .string ⟨#[]⟩, .slice none 0 0, .string ⟨#[]⟩, .int .i64 0, .int .i64 0, .int .i64 0, .slice none 0 0, .slice none 0 0] 93 (0, 0)) := by
  repeat rw [Below.heap_setCell _ _ _ _ (by simp)]
  exact E1
 have BF : Below w.heap.size w ((((((X.setCell ⟨w.heap.size, 9, none⟩ (.string ⟨#[]⟩)).setCell ⟨w.heap.size, 10, none⟩ (.int .i64 0)).setCell ⟨w.heap.size, 11, none⟩ (.int .i64 0)).setCell ⟨w.heap.size, 12, none⟩ (.int .i64 0)).setCell ⟨w.heap.size, 13, none⟩ (.slice none 0 0)).setCell ⟨w.heap.size, 14, none⟩ (.slice none 0 0)) := Below.setCell (p := ⟨w.heap.size, 14, none⟩) (Below.setCell (p := ⟨w.heap.size, 13, none⟩) (Below.setCell (p := ⟨w.heap.size, 12, none⟩) (Below.setCell (p := ⟨w.heap.size, 11, none⟩) (Below.setCell (p := ⟨w.heap.size, 10, none⟩) (Below.setCell (p := ⟨w.heap.size, 9, none⟩) (BX) (Nat.le_refl _) (.string ⟨#[]⟩)) (Nat.le_refl _) (.int .i64 0)) (Nat.le_refl _) (.int .i64 0)) (Nat.le_refl _) (.int .i64 0)) (Nat.le_refl _) (.slice none 0 0)) (Nat.le_refl _) (.slice none 0 0)
 have RF : Hid (((((((X.setCell ⟨w.heap.size, 9, none⟩ (.string ⟨#[]⟩)).setCell ⟨w.heap.size, 10, none⟩ (.int .i64 0)).setCell ⟨w.heap.size, 11, none⟩ (.int .i64 0)).setCell ⟨w.heap.size, 12, none⟩ (.int .i64 0)).setCell ⟨w.heap.size, 13, none⟩ (.slice none 0 0)).setCell ⟨w.heap.size, 14, none⟩ (.slice none 0 0)).rangeAt w.heap.size 0 [.int .i64 e.op, .string (mkB e.id), .string (mkB e.other), .string (mkB e.node), .int .i64 e.x, .int .i64 e.y, .string (mkB e.key), .string (mkB e.value), .slice A1 e.refs.length c1, .string ⟨#[]⟩, .int .i64 0, .int .i64 0, .int .i64 0, .slice none 0 0, .slice none 0 0]) := Lib.hid (range_of_row EF)
 have RG := range_setCells (cs := #[.int .i64 e.op, .string (mkB e.id), .string (mkB e.other), .string (mkB e.node), .int .i64 e.x, .int .i64 e.y, .string (mkB e.key), .string (mkB e.value), .slice A1 e.refs.length c1, .string ⟨#[]⟩, .int .i64 0, .int .i64 0, .int .i64 0, .slice none 0 0, .slice none 0 0]) EG rfl
 have BG := Lib.hid (below_setCells (w' := ((((((X.setCell ⟨w.heap.size, 9, none⟩ (.string ⟨#[]⟩)).setCell ⟨w.heap.size, 10, none⟩ (.int .i64 0)).setCell ⟨w.heap.size, 11, none⟩ (.int .i64 0)).setCell ⟨w.heap.size, 12, none⟩ (.int .i64 0)).setCell ⟨w.heap.size, 13, none⟩ (.slice none 0 0)).setCell ⟨w.heap.size, 14, none⟩ (.slice none 0 0))) (w.heap.size + 1) [.int .i64 e.op, .string (mkB e.id), .string (mkB e.other), .string (mkB e.node), .int .i64 e.x, .int .i64 e.y, .string (mkB e.key), .string (mkB e.value), .slice A1 e.refs.length c1, .string ⟨#[]⟩, .int .i64 0, .int .i64 0, .int .i64 0, .slice none 0 0, .slice none 0 0] 0 _ BF (by omega))
 have LV := Lib.hid (run_loadVar_mid (P := Tryz.prog) (((((((X.setCell ⟨w.heap.size, 9, none⟩ (.string ⟨#[]⟩)).setCell ⟨w.heap.size, 10, none⟩ (.int .i64 0)).setCell ⟨w.heap.size, 11, none⟩ (.int .i64 0)).setCell ⟨w.heap.size, 12, none⟩ (.int .i64 0)).setCell ⟨w.heap.size, 13, none⟩ (.slice none 0 0)).setCell ⟨w.heap.size, 14, none⟩ (.slice none 0 0)).setCells (w.heap.size + 1) 0 [.int .i64 e.op, .string (mkB e.id), .string (mkB e.other), .string (mkB e.node), .int .i64 e.x, .int .i64 e.y, .string (mkB e.key), .string (mkB e.value), .slice A1 e.refs.length c1, .string ⟨#[]⟩, .int .i64 0, .int .i64 0, .int .i64 0, .slice none 0 0, .slice none 0 0]) (w.heap.size + 1) 0 93 [.int .i64 e.op, .string (mkB e.id), .string (mkB e.other), .string (mkB e.node), .int .i64 e.x, .int .i64 e.y, .string (mkB e.key), .string (mkB e.value), .slice A1 e.refs.length c1, .string ⟨#[]⟩, .int .i64 0, .int .i64 0, .int .i64 0, .slice none 0 0, .slice none 0 0] _ RG Tryz.underlying93 rfl (by kernel_rfl))
 have TH := Lib.hid (there_of_row EG (Nat.le_refl 15))
 have x0 := load_block (i := 0) E0 rfl
 have x9 := load_block (i := 9) E0 rfl
 have x10 := load_block (i := 10) E0 rfl
 have x11 := load_block (i := 11) E0 rfl
 have x12 := load_block (i := 12) E0 rfl
 have x13 := load_block (i := 13) E0 rfl
 have x14 := load_block (i := 14) E0 rfl
 have f9 := free_blk E0 9
 have f10 := free_blk E0 10
 have f11 := free_blk E0 11
 have f12 := free_blk E0 12
 have f13 := free_blk E0 13
 have f14 := free_blk E0 14
 have X0 := Lib.hid hX
 clear hX h ho1 r1 hv hb v1 v3 v4 BX E0 E1 EF EG BF RG GP
 clear hop G2 G3 G4 G6 G7
 go_enter Tryz.func206, Tryz.ntmps206
 go_upto_region 1 with fail
 rw [← X0.out]
 clear X0
 go_upto_region 15 with fail
 refine wp_region_lit ?_
 refine wpList_load_mid rfl 93 (.tmp 1) rfl w.heap.size 0 rfl [.int .i64 e.op, .string (mkB e.id), .string (mkB e.other), .string (mkB e.node), .int .i64 e.x, .int .i64 e.y, .string (mkB e.key), .string (mkB e.value), .slice A1 e.refs.length c1, .string ⟨#[]⟩, .int .i64 0, .int .i64 0, .int .i64 0, .slice none 0 0, .slice none 0 0] _ RF.out Tryz.underlying93 rfl (by kernel_rfl) ?_
 refine wpList_store_mid rfl 93 (.tmp 2) (.tmp 36) rfl (w.heap.size + 1) 0 #[.int .i64 e.op, .string (mkB e.id), .string (mkB e.other), .string (mkB e.node), .int .i64 e.x, .int .i64 e.y, .string (mkB e.key), .string (mkB e.value), .slice A1 e.refs.length c1, .string ⟨#[]⟩, .int .i64 0, .int .i64 0, .int .i64 0, .slice none 0 0, .slice none 0 0] rfl rfl TH.out (by kernel_rfl) (by simp [Value.oneCell']) ?_
 go_simp
 go_wp2_with fail
 exact bodyPost_ret (results_cell1 (i := 2) (t := 93) rfl rfl LV.out) rfl ⟨rfl, BG.out⟩
theorem rbare_2 (e : EV) (w : World) (h : EvIs w e) (hop : e.op = 2) :
  Calls Tryz.prog 206 #[evA e] w fun en w' => en = .returned (evA (rbareV e)) ∧ Below w.heap.size w w' := by
 have G1 : ¬ e.op = 1 := by rw [hop]; decide
 have e1 : (e.op == 1) = false := by simpa using G1
 have e2 : (e.op == 2) = true := by rw [hop]; rfl
 have G3 : ¬ e.op = 3 := by rw [hop]; decide
 have e3 : (e.op == 3) = false := by simpa using G3
 have G4 : ¬ e.op = 4 := by rw [hop]; decide
 have e4 : (e.op == 4) = false := by simpa using G4
 have G6 : ¬ e.op = 6 := by rw [hop]; decide
 have e6 : (e.op == 6) = false := by simpa using G6
 have G7 : ¬ e.op = 7 := by rw [hop]; decide
 have e7 : (e.op == 7) = false := by simpa using G7
 have GP := hop
 obtain ⟨⟨A1, c1, v1, r1⟩, ho1⟩ := id h
 obtain ⟨⟨A3, c3, v3, -⟩, ⟨A4, c4, v4, -⟩⟩ := id ho1
 have hv : evA e = .agg #[.int .i64 e.op, .string (mkB e.id), .string (mkB e.other), .string (mkB e.node), .int .i64 e.x, .int .i64 e.y, .string (mkB e.key), .string (mkB e.value), .slice A1 e.refs.length c1, .string (mkB e.o.c.id), .int .i64 e.o.c.kind, .int .i64 e.o.c.x, .int .i64 e.o.c.y, .slice A3 e.o.c.refs.length c3, .slice A4 e.o.c.tags.length c4] := by unfold evA evL; rw [v1, v3, v4]
 have hb : evA (rbareV e) = .agg #[.int .i64 e.op, .string ⟨#[]⟩, .string (mkB e.other), .string (mkB e.node), .int .i64 0, .int .i64 0, .string (mkB e.key), .string (mkB e.value), .slice A1 e.refs.length c1, .string (mkB e.o.c.id), .int .i64 e.o.c.kind, .int .i64 e.o.c.x, .int .i64 e.o.c.y, .slice A3 e.o.c.refs.length c3, .slice A4 e.o.c.tags.length c4] := by
  unfold evA evL rbareV
  dsimp only
  simp only [hop, if_true, if_false, or_false, false_or, or_true, true_or, v1, v3, v4, zRO]
  try simp
  try rfl
  all_goals (repeat' (first | rfl | assumption | constructor))
 rw [hv, hb]
 obtain ⟨X, hX⟩ : ∃ X, X = (w.alloc (.cells #[.int .i64 e.op, .string (mkB e.id), .string (mkB e.other), .string (mkB e.node), .int .i64 e.x, .int .i64 e.y, .string (mkB e.key), .string (mkB e.value), .slice A1 e.refs.length c1, .string (mkB e.o.c.id), .int .i64 e.o.c.kind, .int .i64 e.o.c.x, .int .i64 e.o.c.y, .slice A3 e.o.c.refs.length c3, .slice A4 e.o.c.tags.length c4] 93)).alloc (.cells #[.int .i64 0, .string ⟨#[]⟩, .string ⟨#[]⟩, .string ⟨#[]⟩, .int .i64 0, .int .i64 0, .string ⟨#[]⟩, .string ⟨#[]⟩, .slice none 0 0, .string ⟨#[]⟩, .int .i64 0, .int .i64 0, .int .i64 0, .slice none 0 0, .slice none 0 0] 93) := ⟨_, rfl⟩
 have BX : Below w.heap.size w X := by rw [hX]; exact ((Below.refl _ _).alloc (Nat.le_refl _) _).alloc (by simp) _
 have E0 : X.heap[w.heap.size]? = some (.cells #[.int .i64 e.op, .string (mkB e.id), .string (mkB e.other), .string (mkB e.node), .int .i64 e.x, .int .i64 e.y, .string (mkB e.key), .string (mkB e.value), .slice A1 e.refs.length c1, .string (mkB e.o.c.id), .int .i64 e.o.c.kind, .int .i64 e.o.c.x, .int .i64 e.o.c.y, .slice A3 e.o.c.refs.length c3, .slice A4 e.o.c.tags.length c4] 93 (0, 0)) := by rw [hX]; exact (alloc_old _ _ (by simp)).trans (heap_alloc_new w _)
 have E1 : X.heap[w.heap.size + 1]? = some (.cells #[.int .i64 0, .string ⟨#[]⟩, .string ⟨#[]⟩, .string ⟨#[]⟩, .int .i64 0, .int .i64 0, .string ⟨#[]⟩, .string ⟨#[]⟩, .slice none 0 0, .string ⟨#[]⟩, .int .i64 0, .int .i64 0, .int .i64 0, .slice none 0 0, .slice none 0 0] 93 (0, 0)) := by rw [hX]; exact alloc_new' _ _ _ (by simp)
 have EF : (((X.setCell ⟨w.heap.size, 1, none⟩ (.string ⟨#[]⟩)).setCell ⟨w.heap.size, 4, none⟩ (.int .i64 0)).setCell ⟨w.heap.size, 5, none⟩ (.int .i64 0)).heap[w.heap.size]? = some (.cells #[.int .i64 e.op, .string ⟨#[]⟩, .string (mkB e.other), .string (mkB e.node), .int .i64 0, .int .i64 0, .string (mkB e.key), .string (mkB e.value), .slice A1 e.refs.length c1, .string (mkB e.o.c.id), .int .i64 e.o.c.kind, .int .i64 e.o.c.x, .int .i64 e.o.c.y, .slice A3 e.o.c.refs.length c3, .slice A4 e.o.c.tags.length c4] 93 (0, 0)) := row_put8 (g := w.heap.size) (k := 5) (row_put8 (g := w.heap.size) (k := 4) (row_put8 (g := w.heap.size) (k := 1) (E0) (.string ⟨#[]⟩)) (.int .i64 0)) (.int .i64 0)
 have EG : (((X.setCell ⟨w.heap.size, 1, none⟩ (.string ⟨#[]⟩)).setCell ⟨w.heap.size, 4, none⟩ (.int .i64 0)).setCell ⟨w.heap.size, 5, none⟩ (.int .i64 0)).heap[w.heap.size + 1]? = some (.cells #[.int .i64 0, .string ⟨#[]⟩, .string ⟨#[]⟩, .string ⟨#[]⟩, .int .i64 0, .int .i64 0, .string ⟨#[]⟩, .string ⟨#[]⟩, .slice none 0 0, .string ⟨#[]⟩, .int .i64 0, .int .i64 0, .int .i64 0, .slice none 0 0, .slice none 0 0] 93 (0, 0)) := by
  repeat rw [Below.heap_setCell _ _ _ _ (by simp)]
  exact E1
 have BF : Below w.heap.size w (((X.setCell ⟨w.heap.size, 1, none⟩ (.string ⟨#[]⟩)).setCell ⟨w.heap.size, 4, none⟩ (.int .i64 0)).setCell ⟨w.heap.size, 5, none⟩ (.int .i64 0)) := Below.setCell (p := ⟨w.heap.size, 5, none⟩) (Below.setCell (p := ⟨w.heap.size, 4, none⟩) (Below.setCell (p := ⟨w.heap.size, 1, none⟩) (BX) (Nat.le_refl _) (.string ⟨#[]⟩)) (Nat.le_refl _) (.int .i64 0)) (Nat.le_refl _) (.int .i64 0)
 have RF : Hid ((((X.setCell ⟨w.heap.size, 1, none⟩ (.string ⟨#[]⟩)).setCell ⟨w.heap.size, 4, none⟩ (.int .i64 0)).setCell ⟨w.heap.size, 5, none⟩ (.int .i64 0)).rangeAt w.heap.size 0 [.int .i64 e.op, .string ⟨#[]⟩, .string (mkB e.other), .string (mkB e.node), .int .i64 0, .int .i64 0, .string (mkB e.key), .string (mkB e.value), .slice A1 e.refs.length c1, .string (mkB e.o.c.id), .int .i64 e.o.c.kind, .int .i64 e.o.c.x, .int .i64 e.o.c.y, .slice A3 e.o.c.refs.length c3, .slice A4 e.o.c.tags.length c4]) := Lib.hid (range_of_row EF)
 have RG := range_setCells (cs := #[.int .i64 e.op, .string ⟨#[]⟩, .string (mkB e.other), .string (mkB e.node), .int .i64 0, .int .i64 0, .string (mkB e.key), .string (mkB e.value), .slice A1 e.refs.length c1, .string (mkB e.o.c.id), .int .i64 e.o.c.kind, .int .i64 e.o.c.x, .int .i64 e.o.c.y, .slice A3 e.o.c.refs.length c3, .slice A4 e.o.c.tags.length c4]) EG rfl
 have BG := Lib.hid (below_setCells (w' := (((X.setCell ⟨w.heap.size, 1, none⟩ (.string ⟨#[]⟩)).setCell ⟨w.heap.size, 4, none⟩ (.int .i64 0)).setCell ⟨w.heap.size, 5, none⟩ (.int .i64 0))) (w.heap.size + 1) [.int .i64 e.op, .string ⟨#[]⟩, .string (mkB e.other), .string (mkB e.node), .int .i64 0, .int .i64 0, .string (mkB e.key), .string (mkB e.value), .slice A1 e.refs.length c1, .string (mkB e.o.c.id), .int .i64 e.o.c.kind, .int .i64 e.o.c.x, .int .i64 e.o.c.y, .slice A3 e.o.c.refs.length c3, .slice A4 e.o.c.tags.length c4] 0 _ BF (by omega))
 have LV := Lib.hid (run_loadVar_mid (P := Tryz.prog) ((((X.setCell ⟨w.heap.size, 1, none⟩ (.string ⟨#[]⟩)).setCell ⟨w.heap.size, 4, none⟩ (.int .i64 0)).setCell ⟨w.heap.size, 5, none⟩ (.int .i64 0)).setCells (w.heap.size + 1) 0 [.int .i64 e.op, .string ⟨#[]⟩, .string (mkB e.other), .string (mkB e.node), .int .i64 0, .int .i64 0, .string (mkB e.key), .string (mkB e.value), .slice A1 e.refs.length c1, .string (mkB e.o.c.id), .int .i64 e.o.c.kind, .int .i64 e.o.c.x, .int .i64 e.o.c.y, .slice A3 e.o.c.refs.length c3, .slice A4 e.o.c.tags.length c4]) (w.heap.size + 1) 0 93 [.int .i64 e.op, .string ⟨#[]⟩, .string (mkB e.other), .string (mkB e.node), .int .i64 0, .int .i64 0, .string (mkB e.key), .string (mkB e.value), .slice A1 e.refs.length c1, .string (mkB e.o.c.id), .int .i64 e.o.c.kind, .int .i64 e.o.c.x, .int .i64 e.o.c.y, .slice A3 e.o.c.refs.length c3, .slice A4 e.o.c.tags.length c4] _ RG Tryz.underlying93 rfl (by kernel_rfl))
 have TH := Lib.hid (there_of_row EG (Nat.le_refl 15))
 have x0 := load_block (i := 0) E0 rfl
 have x1 := load_block (i := 1) E0 rfl
 have x4 := load_block (i := 4) E0 rfl
 have x5 := load_block (i := 5) E0 rfl
 have f1 := free_blk E0 1
 have f4 := free_blk E0 4
 have f5 := free_blk E0 5
 have X0 := Lib.hid hX
 clear hX h ho1 r1 hv hb v1 v3 v4 BX E0 E1 EF EG BF RG GP
 clear hop G1 G3 G4 G6 G7
 go_enter Tryz.func206, Tryz.ntmps206
 go_upto_region 1 with fail
 rw [← X0.out]
 clear X0
 go_upto_region 15 with fail
 refine wp_region_lit ?_
 refine wpList_load_mid rfl 93 (.tmp 1) rfl w.heap.size 0 rfl [.int .i64 e.op, .string ⟨#[]⟩, .string (mkB e.other), .string (mkB e.node), .int .i64 0, .int .i64 0, .string (mkB e.key), .string (mkB e.value), .slice A1 e.refs.length c1, .string (mkB e.o.c.id), .int .i64 e.o.c.kind, .int .i64 e.o.c.x, .int .i64 e.o.c.y, .slice A3 e.o.c.refs.length c3, .slice A4 e.o.c.tags.length c4] _ RF.out Tryz.underlying93 rfl (by kernel_rfl) ?_
 refine wpList_store_mid rfl 93 (.tmp 2) (.tmp 36) rfl (w.heap.size + 1) 0 #[.int .i64 e.op, .string ⟨#[]⟩, .string (mkB e.other), .string (mkB e.node), .int .i64 0, .int .i64 0, .string (mkB e.key), .string (mkB e.value), .slice A1 e.refs.length c1, .string (mkB e.o.c.id), .int .i64 e.o.c.kind, .int .i64 e.o.c.x, .int .i64 e.o.c.y, .slice A3 e.o.c.refs.length c3, .slice A4 e.o.c.tags.length c4] rfl rfl TH.out (by kernel_rfl) (by simp [Value.oneCell']) ?_
 go_simp
 go_wp2_with fail
 exact bodyPost_ret (results_cell1 (i := 2) (t := 93) rfl rfl LV.out) rfl ⟨rfl, BG.out⟩
theorem rbare_3 (e : EV) (w : World) (h : EvIs w e) (hop : e.op = 3) :
  Calls Tryz.prog 206 #[evA e] w fun en w' => en = .returned (evA (rbareV e)) ∧ Below w.heap.size w w' := by
 have G1 : ¬ e.op = 1 := by rw [hop]; decide
 have e1 : (e.op == 1) = false := by simpa using G1
 have G2 : ¬ e.op = 2 := by rw [hop]; decide
 have e2 : (e.op == 2) = false := by simpa using G2
 have e3 : (e.op == 3) = true := by rw [hop]; rfl
 have G4 : ¬ e.op = 4 := by rw [hop]; decide
 have e4 : (e.op == 4) = false := by simpa using G4
 have G6 : ¬ e.op = 6 := by rw [hop]; decide
 have e6 : (e.op == 6) = false := by simpa using G6
 have G7 : ¬ e.op = 7 := by rw [hop]; decide
 have e7 : (e.op == 7) = false := by simpa using G7
 have GP := hop
 obtain ⟨⟨A1, c1, v1, r1⟩, ho1⟩ := id h
 obtain ⟨⟨A3, c3, v3, -⟩, ⟨A4, c4, v4, -⟩⟩ := id ho1
 have hv : evA e = .agg #[.int .i64 e.op, .string (mkB e.id), .string (mkB e.other), .string (mkB e.node), .int .i64 e.x, .int .i64 e.y, .string (mkB e.key), .string (mkB e.value), .slice A1 e.refs.length c1, .string (mkB e.o.c.id), .int .i64 e.o.c.kind, .int .i64 e.o.c.x, .int .i64 e.o.c.y, .slice A3 e.o.c.refs.length c3, .slice A4 e.o.c.tags.length c4] := by unfold evA evL; rw [v1, v3, v4]
 have hb : evA (rbareV e) = .agg #[.int .i64 e.op, .string ⟨#[]⟩, .string (mkB e.other), .string (mkB e.node), .int .i64 e.x, .int .i64 e.y, .string ⟨#[]⟩, .string ⟨#[]⟩, .slice A1 e.refs.length c1, .string (mkB e.o.c.id), .int .i64 e.o.c.kind, .int .i64 e.o.c.x, .int .i64 e.o.c.y, .slice A3 e.o.c.refs.length c3, .slice A4 e.o.c.tags.length c4] := by
  unfold evA evL rbareV
  dsimp only
  simp only [hop, if_true, if_false, or_false, false_or, or_true, true_or, v1, v3, v4, zRO]
  try simp
  try rfl
  all_goals (repeat' (first | rfl | assumption | constructor))
 rw [hv, hb]
 obtain ⟨X, hX⟩ : ∃ X, X = (w.alloc (.cells #[.int .i64 e.op, .string (mkB e.id), .string (mkB e.other), .string (mkB e.node), .int .i64 e.x, .int .i64 e.y, .string (mkB e.key), .string (mkB e.value), .slice A1 e.refs.length c1, .string (mkB e.o.c.id), .int .i64 e.o.c.kind, .int .i64 e.o.c.x, .int .i64 e.o.c.y, .slice A3 e.o.c.refs.length c3, .slice A4 e.o.c.tags.length c4] 93)).alloc (.cells #[.int .i64 0, .string ⟨#[]⟩, .string ⟨#[]⟩, .string ⟨#[]⟩, .int .i64 0, .int .i64 0, .string ⟨#[]⟩, .string ⟨#[]⟩, .slice none 0 0, .string ⟨#[]⟩, .int .i64 0, .int .i64 0, .int .i64 0, .slice none 0 0, .slice none 0 0] 93) := ⟨_, rfl⟩
 have BX : Below w.heap.size w X := by rw [hX]; exact ((Below.refl _ _).alloc (Nat.le_refl _) _).alloc (by simp) _
 have E0 : X.heap[w.heap.size]? = some (.cells #[.int .i64 e.op, .string (mkB e.id), .string (mkB e.other), .string (mkB e.node), .int .i64 e.x, .int .i64 e.y, .string (mkB e.key), .string (mkB e.value), .slice A1 e.refs.length c1, .string (mkB e.o.c.id), .int .i64 e.o.c.kind, .int .i64 e.o.c.x, .int .i64 e.o.c.y, .slice A3 e.o.c.refs.length c3, .slice A4 e.o.c.tags.length c4] 93 (0, 0)) := by rw [hX]; exact (alloc_old _ _ (by simp)).trans (heap_alloc_new w _)
 have E1 : X.heap[w.heap.size + 1]? = some (.cells #[.int .i64 0, .string ⟨#[]⟩, .string ⟨#[]⟩, .string ⟨#[]⟩, .int .i64 0, .int .i64 0, .string ⟨#[]⟩, .string ⟨#[]⟩, .slice none 0 0, .string ⟨#[]⟩, .int .i64 0, .int .i64 0, .int .i64 0, .slice none 0 0, .slice none 0 0] 93 (0, 0)) := by rw [hX]; exact alloc_new' _ _ _ (by simp)
 have EF : (((X.setCell ⟨w.heap.size, 1, none⟩ (.string ⟨#[]⟩)).setCell ⟨w.heap.size, 6, none⟩ (.string ⟨#[]⟩)).setCell ⟨w.heap.size, 7, none⟩ (.string ⟨#[]⟩)).heap[w.heap.size]? = some (.cells #[.int .i64 e.op, .string ⟨#[]⟩, .string (mkB e.other), .string (mkB e.node), .int .i64 e.x, .int .i64 e.y, .string ⟨#[]⟩, .string ⟨#[]⟩, .slice A1 e.refs.length c1, .string (mkB e.o.c.id), .int .i64 e.o.c.kind, .int .i64 e.o.c.x, .int .i64 e.o.c.y, .slice A3 e.o.c.refs.length c3, .slice A4 e.o.c.tags.length c4] 93 (0, 0)) := row_put8 (g := w.heap.size) (k := 7) (row_put8 (g := w.heap.size) (k := 6) (row_put8 (g := w.heap.size) (k := 1) (E0) (.string ⟨#[]⟩)) (.string ⟨#[]⟩)) (.string ⟨#[]⟩)
 have EG : (((X.setCell ⟨w.heap.size, 1, none⟩ (.string ⟨#[]⟩)).setCell ⟨w.heap.size, 6, none⟩ (.string ⟨#[]⟩)).setCell ⟨w.heap.size, 7, none⟩ (.string ⟨#[]⟩)).heap[w.heap.size + 1]? = some (.cells #[.int .i64 0, .string ⟨#[]⟩, .string ⟨#[]⟩, .string ⟨#[]⟩, .int .i64 0, .int .i64 0, .string ⟨#[]⟩, .string ⟨#[]⟩, .slice none 0 0, .string ⟨#[]⟩, .int .i64 0, .int .i64 0, .int .i64 0, .slice none 0 0, .slice none 0 0] 93 (0, 0)) := by
  repeat rw [Below.heap_setCell _ _ _ _ (by simp)]
  exact E1
 have BF : Below w.heap.size w (((X.setCell ⟨w.heap.size, 1, none⟩ (.string ⟨#[]⟩)).setCell ⟨w.heap.size, 6, none⟩ (.string ⟨#[]⟩)).setCell ⟨w.heap.size, 7, none⟩ (.string ⟨#[]⟩)) := Below.setCell (p := ⟨w.heap.size, 7, none⟩) (Below.setCell (p := ⟨w.heap.size, 6, none⟩) (Below.setCell (p := ⟨w.heap.size, 1, none⟩) (BX) (Nat.le_refl _) (.string ⟨#[]⟩)) (Nat.le_refl _) (.string ⟨#[]⟩)) (Nat.le_refl _) (.string ⟨#[]⟩)
 have RF : Hid ((((X.setCell ⟨w.heap.size, 1, none⟩ (.string ⟨#[]⟩)).setCell ⟨w.heap.size, 6, none⟩ (.string ⟨#[]⟩)).setCell ⟨w.heap.size, 7, none⟩ (.string ⟨#[]⟩)).rangeAt w.heap.size 0 [.int .i64 e.op, .string ⟨#[]⟩, .string (mkB e.other), .string (mkB e.node), .int .i64 e.x, .int .i64 e.y, .string ⟨#[]⟩, .string ⟨#[]⟩, .slice A1 e.refs.length c1, .string (mkB e.o.c.id), .int .i64 e.o.c.kind, .int .i64 e.o.c.x, .int .i64 e.o.c.y, .slice A3 e.o.c.refs.length c3, .slice A4 e.o.c.tags.length c4]) := Lib.hid (range_of_row EF)
 have RG := range_setCells (cs := #[.int .i64 e.op, .string ⟨#[]⟩, .string (mkB e.other), .string (mkB e.node), .int .i64 e.x, .int .i64 e.y, .string ⟨#[]⟩, .string ⟨#[]⟩, .slice A1 e.refs.length c1, .string (mkB e.o.c.id), .int .i64 e.o.c.kind, .int .i64 e.o.c.x, .int .i64 e.o.c.y, .slice A3 e.o.c.refs.length c3, .slice A4 e.o.c.tags.length c4]) EG rfl
 have BG := Lib.hid (below_setCells (w' := (((X.setCell ⟨w.heap.size, 1, none⟩ (.string ⟨#[]⟩)).setCell ⟨w.heap.size, 6, none⟩ (.string ⟨#[]⟩)).setCell ⟨w.heap.size, 7, none⟩ (.string ⟨#[]⟩))) (w.heap.size + 1) [.int .i64 e.op, .string ⟨#[]⟩, .string (mkB e.other), .string (mkB e.node), .int .i64 e.x, .int .i64 e.y, .string ⟨#[]⟩, .string ⟨#[]⟩, .slice A1 e.refs.length c1, .string (mkB e.o.c.id), .int .i64 e.o.c.kind, .int .i64 e.o.c.x, .int .i64 e.o.c.y, .slice A3 e.o.c.refs.length c3, .slice A4 e.o.c.tags.length c4] 0 _ BF (by omega))
 have LV := Lib.hid (run_loadVar_mid (P := Tryz.prog) ((((X.setCell ⟨w.heap.size, 1, none⟩ (.string ⟨#[]⟩)).setCell ⟨w.heap.size, 6, none⟩ (.string ⟨#[]⟩)).setCell ⟨w.heap.size, 7, none⟩ (.string ⟨#[]⟩)).setCells (w.heap.size + 1) 0 [.int .i64 e.op, .string ⟨#[]⟩, .string (mkB e.other), .string (mkB e.node), .int .i64 e.x, .int .i64 e.y, .string ⟨#[]⟩, .string ⟨#[]⟩, .slice A1 e.refs.length c1, .string (mkB e.o.c.id), .int .i64 e.o.c.kind, .int .i64 e.o.c.x, .int .i64 e.o.c.y, .slice A3 e.o.c.refs.length c3, .slice A4 e.o.c.tags.length c4]) (w.heap.size + 1) 0 93 [.int .i64 e.op, .string ⟨#[]⟩, .string (mkB e.other), .string (mkB e.node), .int .i64 e.x, .int .i64 e.y, .string ⟨#[]⟩, .string ⟨#[]⟩, .slice A1 e.refs.length c1, .string (mkB e.o.c.id), .int .i64 e.o.c.kind, .int .i64 e.o.c.x, .int .i64 e.o.c.y, .slice A3 e.o.c.refs.length c3, .slice A4 e.o.c.tags.length c4] _ RG Tryz.underlying93 rfl (by kernel_rfl))
 have TH := Lib.hid (there_of_row EG (Nat.le_refl 15))
 have x0 := load_block (i := 0) E0 rfl
 have x1 := load_block (i := 1) E0 rfl
 have x6 := load_block (i := 6) E0 rfl
 have x7 := load_block (i := 7) E0 rfl
 have f1 := free_blk E0 1
 have f6 := free_blk E0 6
 have f7 := free_blk E0 7
 have X0 := Lib.hid hX
 clear hX h ho1 r1 hv hb v1 v3 v4 BX E0 E1 EF EG BF RG GP
 clear hop G1 G2 G4 G6 G7
 go_enter Tryz.func206, Tryz.ntmps206
 go_upto_region 1 with fail
 rw [← X0.out]
 clear X0
 go_upto_region 15 with fail
 refine wp_region_lit ?_
 refine wpList_load_mid rfl 93 (.tmp 1) rfl w.heap.size 0 rfl [.int .i64 e.op, .string ⟨#[]⟩, .string (mkB e.other), .string (mkB e.node), .int .i64 e.x, .int .i64 e.y, .string ⟨#[]⟩, .string ⟨#[]⟩, .slice A1 e.refs.length c1, .string (mkB e.o.c.id), .int .i64 e.o.c.kind, .int .i64 e.o.c.x, .int .i64 e.o.c.y, .slice A3 e.o.c.refs.length c3, .slice A4 e.o.c.tags.length c4] _ RF.out Tryz.underlying93 rfl (by kernel_rfl) ?_
 refine wpList_store_mid rfl 93 (.tmp 2) (.tmp 36) rfl (w.heap.size + 1) 0 #[.int .i64 e.op, .string ⟨#[]⟩, .string (mkB e.other), .string (mkB e.node), .int .i64 e.x, .int .i64 e.y, .string ⟨#[]⟩, .string ⟨#[]⟩, .slice A1 e.refs.length c1, .string (mkB e.o.c.id), .int .i64 e.o.c.kind, .int .i64 e.o.c.x, .int .i64 e.o.c.y, .slice A3 e.o.c.refs.length c3, .slice A4 e.o.c.tags.length c4] rfl rfl TH.out (by kernel_rfl) (by simp [Value.oneCell']) ?_
 go_simp
 go_wp2_with fail
 exact bodyPost_ret (results_cell1 (i := 2) (t := 93) rfl rfl LV.out) rfl ⟨rfl, BG.out⟩
theorem rbare_4 (e : EV) (w : World) (h : EvIs w e) (hop : e.op = 4) :
  Calls Tryz.prog 206 #[evA e] w fun en w' => en = .returned (evA (rbareV e)) ∧ Below w.heap.size w w' := by
 have G1 : ¬ e.op = 1 := by rw [hop]; decide
 have e1 : (e.op == 1) = false := by simpa using G1
 have G2 : ¬ e.op = 2 := by rw [hop]; decide
 have e2 : (e.op == 2) = false := by simpa using G2
 have G3 : ¬ e.op = 3 := by rw [hop]; decide
 have e3 : (e.op == 3) = false := by simpa using G3
 have e4 : (e.op == 4) = true := by rw [hop]; rfl
 have G6 : ¬ e.op = 6 := by rw [hop]; decide
 have e6 : (e.op == 6) = false := by simpa using G6
 have G7 : ¬ e.op = 7 := by rw [hop]; decide
 have e7 : (e.op == 7) = false := by simpa using G7
 have GP := hop
 obtain ⟨⟨A1, c1, v1, r1⟩, ho1⟩ := id h
 obtain ⟨⟨A3, c3, v3, -⟩, ⟨A4, c4, v4, -⟩⟩ := id ho1
 have hv : evA e = .agg #[.int .i64 e.op, .string (mkB e.id), .string (mkB e.other), .string (mkB e.node), .int .i64 e.x, .int .i64 e.y, .string (mkB e.key), .string (mkB e.value), .slice A1 e.refs.length c1, .string (mkB e.o.c.id), .int .i64 e.o.c.kind, .int .i64 e.o.c.x, .int .i64 e.o.c.y, .slice A3 e.o.c.refs.length c3, .slice A4 e.o.c.tags.length c4] := by unfold evA evL; rw [v1, v3, v4]
 have hb : evA (rbareV e) = .agg #[.int .i64 e.op, .string ⟨#[]⟩, .string (mkB e.other), .string (mkB e.node), .int .i64 e.x, .int .i64 e.y, .string (mkB e.key), .string (mkB e.value), .slice none 0 0, .string (mkB e.o.c.id), .int .i64 e.o.c.kind, .int .i64 e.o.c.x, .int .i64 e.o.c.y, .slice A3 e.o.c.refs.length c3, .slice A4 e.o.c.tags.length c4] := by
  unfold evA evL rbareV
  dsimp only
  simp only [hop, if_true, if_false, or_false, false_or, or_true, true_or, v1, v3, v4, zRO]
  try simp
  try rfl
  all_goals (repeat' (first | rfl | assumption | constructor))
 rw [hv, hb]
 obtain ⟨X, hX⟩ : ∃ X, X = (w.alloc (.cells #[.int .i64 e.op, .string (mkB e.id), .string (mkB e.other), .string (mkB e.node), .int .i64 e.x, .int .i64 e.y, .string (mkB e.key), .string (mkB e.value), .slice A1 e.refs.length c1, .string (mkB e.o.c.id), .int .i64 e.o.c.kind, .int .i64 e.o.c.x, .int .i64 e.o.c.y, .slice A3 e.o.c.refs.length c3, .slice A4 e.o.c.tags.length c4] 93)).alloc (.cells #[.int .i64 0, .string ⟨#[]⟩, .string ⟨#[]⟩, .string ⟨#[]⟩, .int .i64 0, .int .i64 0, .string ⟨#[]⟩, .string ⟨#[]⟩, .slice none 0 0, .string ⟨#[]⟩, .int .i64 0, .int .i64 0, .int .i64 0, .slice none 0 0, .slice none 0 0] 93) := ⟨_, rfl⟩
 have BX : Below w.heap.size w X := by rw [hX]; exact ((Below.refl _ _).alloc (Nat.le_refl _) _).alloc (by simp) _
 have E0 : X.heap[w.heap.size]? = some (.cells #[.int .i64 e.op, .string (mkB e.id), .string (mkB e.other), .string (mkB e.node), .int .i64 e.x, .int .i64 e.y, .string (mkB e.key), .string (mkB e.value), .slice A1 e.refs.length c1, .string (mkB e.o.c.id), .int .i64 e.o.c.kind, .int .i64 e.o.c.x, .int .i64 e.o.c.y, .slice A3 e.o.c.refs.length c3, .slice A4 e.o.c.tags.length c4] 93 (0, 0)) := by rw [hX]; exact (alloc_old _ _ (by simp)).trans (heap_alloc_new w _)
 have E1 : X.heap[w.heap.size + 1]? = some (.cells #[.int .i64 0, .string ⟨#[]⟩, .string ⟨#[]⟩, .string ⟨#[]⟩, .int .i64 0, .int .i64 0, .string ⟨#[]⟩, .string ⟨#[]⟩, .slice none 0 0, .string ⟨#[]⟩, .int .i64 0, .int .i64 0, .int .i64 0, .slice none 0 0, .slice none 0 0] 93 (0, 0)) := by rw [hX]; exact alloc_new' _ _ _ (by simp)
 have EF : ((X.setCell ⟨w.heap.size, 1, none⟩ (.string ⟨#[]⟩)).setCell ⟨w.heap.size, 8, none⟩ (.slice none 0 0)).heap[w.heap.size]? = some (.cells #[.int .i64 e.op, .string ⟨#[]⟩, .string (mkB e.other), .string (mkB e.node), .int .i64 e.x, .int .i64 e.y, .string (mkB e.key), .string (mkB e.value), .slice none 0 0, .string (mkB e.o.c.id), .int .i64 e.o.c.kind, .int .i64 e.o.c.x, .int .i64 e.o.c.y, .slice A3 e.o.c.refs.length c3, .slice A4 e.o.c.tags.length c4] 93 (0, 0)) := row_put8 (g := w.heap.size) (k := 8) (row_put8 (g := w.heap.size) (k := 1) (E0) (.string ⟨#[]⟩)) (.slice none 0 0)
 have EG : ((X.setCell ⟨w.heap.size, 1, none⟩ (.string ⟨#[]⟩)).setCell ⟨w.heap.size, 8, none⟩ (.slice none 0 0)).heap[w.heap.size + 1]? = some (.cells #[.int .i64 0, .string ⟨#[]⟩, .string ⟨#[]⟩, .string ⟨#[]⟩, .int .i64 0, .int .i64 0, .string ⟨#[]⟩, .string ⟨#[]⟩, .slice none 0 0, .string ⟨#[]⟩, .int .i64 0, .int .i64 0, .int .i64 0, .slice none 0 0, .slice none 0 0] 93 (0, 0)) := by
  repeat rw [Below.heap_setCell _ _ _ _ (by simp)]
  exact E1
 have BF : Below w.heap.size w ((X.setCell ⟨w.heap.size, 1, none⟩ (.string ⟨#[]⟩)).setCell ⟨w.heap.size, 8, none⟩ (.slice none 0 0)) := Below.setCell (p := ⟨w.heap.size, 8, none⟩) (Below.setCell (p := ⟨w.heap.size, 1, none⟩) (BX) (Nat.le_refl _) (.string ⟨#[]⟩)) (Nat.le_refl _) (.slice none 0 0)
 have RF : Hid (((X.setCell ⟨w.heap.size, 1, none⟩ (.string ⟨#[]⟩)).setCell ⟨w.heap.size, 8, none⟩ (.slice none 0 0)).rangeAt w.heap.size 0 [.int .i64 e.op, .string ⟨#[]⟩, .string (mkB e.other), .string (mkB e.node), .int .i64 e.x, .int .i64 e.y, .string (mkB e.key), .string (mkB e.value), .slice none 0 0, .string (mkB e.o.c.id), .int .i64 e.o.c.kind, .int .i64 e.o.c.x, .int .i64 e.o.c.y, .slice A3 e.o.c.refs.length c3, .slice A4 e.o.c.tags.length c4]) := Lib.hid (range_of_row EF)
 have RG := range_setCells (cs := #[.int .i64 e.op, .string ⟨#[]⟩, .string (mkB e.other), .string (mkB e.node), .int .i64 e.x, .int .i64 e.y, .string (mkB e.key), .string (mkB e.value), .slice none 0 0, .string (mkB e.o.c.id), .int .i64 e.o.c.kind, .int .i64 e.o.c.x, .int .i64 e.o.c.y, .slice A3 e.o.c.refs.length c3, .slice A4 e.o.c.tags.length c4]) EG rfl
 have BG := Lib.hid (below_setCells (w' := ((X.setCell ⟨w.heap.size, 1, none⟩ (.string ⟨#[]⟩)).setCell ⟨w.heap.size, 8, none⟩ (.slice none 0 0))) (w.heap.size + 1) [.int .i64 e.op, .string ⟨#[]⟩, .string (mkB e.other), .string (mkB e.node), .int .i64 e.x, .int .i64 e.y, .string (mkB e.key), .string (mkB e.value), .slice none 0 0, .string (mkB e.o.c.id), .int .i64 e.o.c.kind, .int .i64 e.o.c.x, .int .i64 e.o.c.y, .slice A3 e.o.c.refs.length c3, .slice A4 e.o.c.tags.length c4] 0 _ BF (by omega))
 have LV := Lib.hid (run_loadVar_mid (P := Tryz.prog) (((X.setCell ⟨w.heap.size, 1, none⟩ (.string ⟨#[]⟩)).setCell ⟨w.heap.size, 8, none⟩ (.slice none 0 0)).setCells (w.heap.size + 1) 0 [.int .i64 e.op, .string ⟨#[]⟩, .string (mkB e.other), .string (mkB e.node), .int .i64 e.x, .int .i64 e.y, .string (mkB e.key), .string (mkB e.value), .slice none 0 0, .string (mkB e.o.c.id), .int .i64 e.o.c.kind, .int .i64 e.o.c.x, .int .i64 e.o.c.y, .slice A3 e.o.c.refs.length c3, .slice A4 e.o.c.tags.length c4]) (w.heap.size + 1) 0 93 [.int .i64 e.op, .string ⟨#[]⟩, .string (mkB e.other), .string (mkB e.node), .int .i64 e.x, .int .i64 e.y, .string (mkB e.key), .string (mkB e.value), .slice none 0 0, .string (mkB e.o.c.id), .int .i64 e.o.c.kind, .int .i64 e.o.c.x, .int .i64 e.o.c.y, .slice A3 e.o.c.refs.length c3, .slice A4 e.o.c.tags.length c4] _ RG Tryz.underlying93 rfl (by kernel_rfl))
 have TH := Lib.hid (there_of_row EG (Nat.le_refl 15))
 have x0 := load_block (i := 0) E0 rfl
 have x1 := load_block (i := 1) E0 rfl
 have x8 := load_block (i := 8) E0 rfl
 have f1 := free_blk E0 1
 have f8 := free_blk E0 8
 have X0 := Lib.hid hX
 clear hX h ho1 r1 hv hb v1 v3 v4 BX E0 E1 EF EG BF RG GP
 clear hop G1 G2 G3 G6 G7
 go_enter Tryz.func206, Tryz.ntmps206
 go_upto_region 1 with fail
 rw [← X0.out]
 clear X0
 go_upto_region 15 with fail
 refine wp_region_lit ?_
 refine wpList_load_mid rfl 93 (.tmp 1) rfl w.heap.size 0 rfl [.int .i64 e.op, .string ⟨#[]⟩, .string (mkB e.other), .string (mkB e.node), .int .i64 e.x, .int .i64 e.y, .string (mkB e.key), .string (mkB e.value), .slice none 0 0, .string (mkB e.o.c.id), .int .i64 e.o.c.kind, .int .i64 e.o.c.x, .int .i64 e.o.c.y, .slice A3 e.o.c.refs.length c3, .slice A4 e.o.c.tags.length c4] _ RF.out Tryz.underlying93 rfl (by kernel_rfl) ?_
 refine wpList_store_mid rfl 93 (.tmp 2) (.tmp 36) rfl (w.heap.size + 1) 0 #[.int .i64 e.op, .string ⟨#[]⟩, .string (mkB e.other), .string (mkB e.node), .int .i64 e.x, .int .i64 e.y, .string (mkB e.key), .string (mkB e.value), .slice none 0 0, .string (mkB e.o.c.id), .int .i64 e.o.c.kind, .int .i64 e.o.c.x, .int .i64 e.o.c.y, .slice A3 e.o.c.refs.length c3, .slice A4 e.o.c.tags.length c4] rfl rfl TH.out (by kernel_rfl) (by simp [Value.oneCell']) ?_
 go_simp
 go_wp2_with fail
 exact bodyPost_ret (results_cell1 (i := 2) (t := 93) rfl rfl LV.out) rfl ⟨rfl, BG.out⟩
theorem rbare_6 (e : EV) (w : World) (h : EvIs w e) (hop : e.op = 6) :
  Calls Tryz.prog 206 #[evA e] w fun en w' => en = .returned (evA (rbareV e)) ∧ Below w.heap.size w w' := by
 have G1 : ¬ e.op = 1 := by rw [hop]; decide
 have e1 : (e.op == 1) = false := by simpa using G1
 have G2 : ¬ e.op = 2 := by rw [hop]; decide
 have e2 : (e.op == 2) = false := by simpa using G2
 have G3 : ¬ e.op = 3 := by rw [hop]; decide
 have e3 : (e.op == 3) = false := by simpa using G3
 have G4 : ¬ e.op = 4 := by rw [hop]; decide
 have e4 : (e.op == 4) = false := by simpa using G4
 have e6 : (e.op == 6) = true := by rw [hop]; rfl
 have G7 : ¬ e.op = 7 := by rw [hop]; decide
 have e7 : (e.op == 7) = false := by simpa using G7
 have GP := hop
 obtain ⟨⟨A1, c1, v1, r1⟩, ho1⟩ := id h
 obtain ⟨⟨A3, c3, v3, -⟩, ⟨A4, c4, v4, -⟩⟩ := id ho1
 have hv : evA e = .agg #[.int .i64 e.op, .string (mkB e.id), .string (mkB e.other), .string (mkB e.node), .int .i64 e.x, .int .i64 e.y, .string (mkB e.key), .string (mkB e.value), .slice A1 e.refs.length c1, .string (mkB e.o.c.id), .int .i64 e.o.c.kind, .int .i64 e.o.c.x, .int .i64 e.o.c.y, .slice A3 e.o.c.refs.length c3, .slice A4 e.o.c.tags.length c4] := by unfold evA evL; rw [v1, v3, v4]
 have hb : evA (rbareV e) = .agg #[.int .i64 e.op, .string ⟨#[]⟩, .string ⟨#[]⟩, .string ⟨#[]⟩, .int .i64 e.x, .int .i64 e.y, .string (mkB e.key), .string (mkB e.value), .slice A1 e.refs.length c1, .string (mkB e.o.c.id), .int .i64 e.o.c.kind, .int .i64 e.o.c.x, .int .i64 e.o.c.y, .slice A3 e.o.c.refs.length c3, .slice A4 e.o.c.tags.length c4] := by
  unfold evA evL rbareV
  dsimp only
  simp only [hop, if_true, if_false, or_false, false_or, or_true, true_or, v1, v3, v4, zRO]
  try simp
  try rfl
  all_goals (repeat' (first | rfl | assumption | constructor))
 rw [hv, hb]
 obtain ⟨X, hX⟩ : ∃ X, X = (w.alloc (.cells #[.int .i64 e.op, .string (mkB e.id), .string (mkB e.other), .string (mkB e.node), .int .i64 e.x, .int .i64 e.y, .string (mkB e.key), .string (mkB e.value), .slice A1 e.refs.length c1, .string (mkB e.o.c.id), .int .i64 e.o.c.kind, .int .i64 e.o.c.x, .int .i64 e.o.c.y, .slice A3 e.o.c.refs.length c3, .slice A4 e.o.c.tags.length c4] 93)).alloc (.cells #[.int .i64 0, .string ⟨#[]⟩, .string ⟨#[]⟩, .string ⟨#[]⟩, .int .i64 0, .int .i64 0, .string ⟨#[]⟩, .string ⟨#[]⟩, .slice none 0 0, .string ⟨#[]⟩, .int .i64 0, .int .i64 0, .int .i64 0, .slice none 0 0, .slice none 0 0] 93) := ⟨_, rfl⟩
 have BX : Below w.heap.size w X := by rw [hX]; exact ((Below.refl _ _).alloc (Nat.le_refl _) _).alloc (by simp) _
 have E0 : X.heap[w.heap.size]? = some (.cells #[.int .i64 e.op, .string (mkB e.id), .string (mkB e.other), .string (mkB e.node), .int .i64 e.x, .int .i64 e.y, .string (mkB e.key), .string (mkB e.value), .slice A1 e.refs.length c1, .string (mkB e.o.c.id), .int .i64 e.o.c.kind, .int .i64 e.o.c.x, .int .i64 e.o.c.y, .slice A3 e.o.c.refs.length c3, .slice A4 e.o.c.tags.length c4] 93 (0, 0)) := by rw [hX]; exact (alloc_old _ _ (by simp)).trans (heap_alloc_new w _)
 have E1 : X.heap[w.heap.size + 1]? = some (.cells #[.int .i64 0, .string ⟨#[]⟩, .string ⟨#[]⟩, .string ⟨#[]⟩, .int .i64 0, .int .i64 0, .string ⟨#[]⟩, .string ⟨#[]⟩, .slice none 0 0, .string ⟨#[]⟩, .int .i64 0, .int .i64 0, .int .i64 0, .slice none 0 0, .slice none 0 0] 93 (0, 0)) := by rw [hX]; exact alloc_new' _ _ _ (by simp)
 have EF : (((X.setCell ⟨w.heap.size, 1, none⟩ (.string ⟨#[]⟩)).setCell ⟨w.heap.size, 3, none⟩ (.string ⟨#[]⟩)).setCell ⟨w.heap.size, 2, none⟩ (.string ⟨#[]⟩)).heap[w.heap.size]? = some (.cells #[.int .i64 e.op, .string ⟨#[]⟩, .string ⟨#[]⟩, .string ⟨#[]⟩, .int .i64 e.x, .int .i64 e.y, .string (mkB e.key), .string (mkB e.value), .slice A1 e.refs.length c1, .string (mkB e.o.c.id), .int .i64 e.o.c.kind, .int .i64 e.o.c.x, .int .i64 e.o.c.y, .slice A3 e.o.c.refs.length c3, .slice A4 e.o.c.tags.length c4] 93 (0, 0)) := row_put8 (g := w.heap.size) (k := 2) (row_put8 (g := w.heap.size) (k := 3) (row_put8 (g := w.heap.size) (k := 1) (E0) (.string ⟨#[]⟩)) (.string ⟨#[]⟩)) (.string ⟨#[]⟩)
 have EG : (((X.setCell ⟨w.heap.size, 1, none⟩ (.string ⟨#[]⟩)).setCell ⟨w.heap.size, 3, none⟩ (.string ⟨#[]⟩)).setCell ⟨w.heap.size, 2, none⟩ (.string ⟨#[]⟩)).heap[w.heap.size + 1]? = some (.cells #[.int .i64 0, .string ⟨#[]⟩, .string ⟨#[]⟩, .string ⟨#[]⟩, .int .i64 0, .int .i64 0, .string ⟨#[]⟩, .string ⟨#[]⟩, .slice none 0 0, .string ⟨#[]⟩, .int .i64 0, .int .i64 0, .int .i64 0, .slice none 0 0, .slice none 0 0] 93 (0, 0)) := by
  repeat rw [Below.heap_setCell _ _ _ _ (by simp)]
  exact E1
 have BF : Below w.heap.size w (((X.setCell ⟨w.heap.size, 1, none⟩ (.string ⟨#[]⟩)).setCell ⟨w.heap.size, 3, none⟩ (.string ⟨#[]⟩)).setCell ⟨w.heap.size, 2, none⟩ (.string ⟨#[]⟩)) := Below.setCell (p := ⟨w.heap.size, 2, none⟩) (Below.setCell (p := ⟨w.heap.size, 3, none⟩) (Below.setCell (p := ⟨w.heap.size, 1, none⟩) (BX) (Nat.le_refl _) (.string ⟨#[]⟩)) (Nat.le_refl _) (.string ⟨#[]⟩)) (Nat.le_refl _) (.string ⟨#[]⟩)
 have RF : Hid ((((X.setCell ⟨w.heap.size, 1, none⟩ (.string ⟨#[]⟩)).setCell ⟨w.heap.size, 3, none⟩ (.string ⟨#[]⟩)).setCell ⟨w.heap.size, 2, none⟩ (.string ⟨#[]⟩)).rangeAt w.heap.size 0 [.int .i64 e.op, .string ⟨#[]⟩, .string ⟨#[]⟩, .string ⟨#[]⟩, .int .i64 e.x, .int .i64 e.y, .string (mkB e.key), .string (mkB e.value), .slice A1 e.refs.length c1, .string (mkB e.o.c.id), .int .i64 e.o.c.kind, .int .i64 e.o.c.x, .int .i64 e.o.c.y, .slice A3 e.o.c.refs.length c3, .slice A4 e.o.c.tags.length c4]) := Lib.hid (range_of_row EF)
 have RG := range_setCells (cs := #[.int .i64 e.op, .string ⟨#[]⟩, .string ⟨#[]⟩, .string ⟨#[]⟩, .int .i64 e.x, .int .i64 e.y, .string (mkB e.key), .string (mkB e.value), .slice A1 e.refs.length c1, .string (mkB e.o.c.id), .int .i64 e.o.c.kind, .int .i64 e.o.c.x, .int .i64 e.o.c.y, .slice A3 e.o.c.refs.length c3, .slice A4 e.o.c.tags.length c4]) EG rfl
 have BG := Lib.hid (below_setCells (w' := (((X.setCell ⟨w.heap.size, 1, none⟩ (.string ⟨#[]⟩)).setCell ⟨w.heap.size, 3, none⟩ (.string ⟨#[]⟩)).setCell ⟨w.heap.size, 2, none⟩ (.string ⟨#[]⟩))) (w.heap.size + 1) [.int .i64 e.op, .string ⟨#[]⟩, .string ⟨#[]⟩, .string ⟨#[]⟩, .int .i64 e.x, .int .i64 e.y, .string (mkB e.key), .string (mkB e.value), .slice A1 e.refs.length c1, .string (mkB e.o.c.id), .int .i64 e.o.c.kind, .int .i64 e.o.c.x, .int .i64 e.o.c.y, .slice A3 e.o.c.refs.length c3, .slice A4 e.o.c.tags.length c4] 0 _ BF (by omega))
 have LV := Lib.hid (run_loadVar_mid (P := Tryz.prog) ((((X.setCell ⟨w.heap.size, 1, none⟩ (.string ⟨#[]⟩)).setCell ⟨w.heap.size, 3, none⟩ (.string ⟨#[]⟩)).setCell ⟨w.heap.size, 2, none⟩ (.string ⟨#[]⟩)).setCells (w.heap.size + 1) 0 [.int .i64 e.op, .string ⟨#[]⟩, .string ⟨#[]⟩, .string ⟨#[]⟩, .int .i64 e.x, .int .i64 e.y, .string (mkB e.key), .string (mkB e.value), .slice A1 e.refs.length c1, .string (mkB e.o.c.id), .int .i64 e.o.c.kind, .int .i64 e.o.c.x, .int .i64 e.o.c.y, .slice A3 e.o.c.refs.length c3, .slice A4 e.o.c.tags.length c4]) (w.heap.size + 1) 0 93 [.int .i64 e.op, .string ⟨#[]⟩, .string ⟨#[]⟩, .string ⟨#[]⟩, .int .i64 e.x, .int .i64 e.y, .string (mkB e.key), .string (mkB e.value), .slice A1 e.refs.length c1, .string (mkB e.o.c.id), .int .i64 e.o.c.kind, .int .i64 e.o.c.x, .int .i64 e.o.c.y, .slice A3 e.o.c.refs.length c3, .slice A4 e.o.c.tags.length c4] _ RG Tryz.underlying93 rfl (by kernel_rfl))
 have TH := Lib.hid (there_of_row EG (Nat.le_refl 15))
 have x0 := load_block (i := 0) E0 rfl
 have x1 := load_block (i := 1) E0 rfl
 have x2 := load_block (i := 2) E0 rfl
 have x3 := load_block (i := 3) E0 rfl
 have f1 := free_blk E0 1
 have f3 := free_blk E0 3
 have f2 := free_blk E0 2
 have X0 := Lib.hid hX
 clear hX h ho1 r1 hv hb v1 v3 v4 BX E0 E1 EF EG BF RG GP
 clear hop G1 G2 G3 G4 G7
 go_enter Tryz.func206, Tryz.ntmps206
 go_upto_region 1 with fail
 rw [← X0.out]
 clear X0
 go_upto_region 15 with fail
 refine wp_region_lit ?_
 refine wpList_load_mid rfl 93 (.tmp 1) rfl w.heap.size 0 rfl [.int .i64 e.op, .string ⟨#[]⟩, .string ⟨#[]⟩, .string ⟨#[]⟩, .int .i64 e.x, .int .i64 e.y, .string (mkB e.key), .string (mkB e.value), .slice A1 e.refs.length c1, .string (mkB e.o.c.id), .int .i64 e.o.c.kind, .int .i64 e.o.c.x, .int .i64 e.o.c.y, .slice A3 e.o.c.refs.length c3, .slice A4 e.o.c.tags.length c4] _ RF.out Tryz.underlying93 rfl (by kernel_rfl) ?_
 refine wpList_store_mid rfl 93 (.tmp 2) (.tmp 36) rfl (w.heap.size + 1) 0 #[.int .i64 e.op, .string ⟨#[]⟩, .string ⟨#[]⟩, .string ⟨#[]⟩, .int .i64 e.x, .int .i64 e.y, .string (mkB e.key), .string (mkB e.value), .slice A1 e.refs.length c1, .string (mkB e.o.c.id), .int .i64 e.o.c.kind, .int .i64 e.o.c.x, .int .i64 e.o.c.y, .slice A3 e.o.c.refs.length c3, .slice A4 e.o.c.tags.length c4] rfl rfl TH.out (by kernel_rfl) (by simp [Value.oneCell']) ?_
 go_simp
 go_wp2_with fail
 exact bodyPost_ret (results_cell1 (i := 2) (t := 93) rfl rfl LV.out) rfl ⟨rfl, BG.out⟩
theorem rbare_7 (e : EV) (w : World) (h : EvIs w e) (hop : e.op = 7) :
  Calls Tryz.prog 206 #[evA e] w fun en w' => en = .returned (evA (rbareV e)) ∧ Below w.heap.size w w' := by
 have G1 : ¬ e.op = 1 := by rw [hop]; decide
 have e1 : (e.op == 1) = false := by simpa using G1
 have G2 : ¬ e.op = 2 := by rw [hop]; decide
 have e2 : (e.op == 2) = false := by simpa using G2
 have G3 : ¬ e.op = 3 := by rw [hop]; decide
 have e3 : (e.op == 3) = false := by simpa using G3
 have G4 : ¬ e.op = 4 := by rw [hop]; decide
 have e4 : (e.op == 4) = false := by simpa using G4
 have G6 : ¬ e.op = 6 := by rw [hop]; decide
 have e6 : (e.op == 6) = false := by simpa using G6
 have e7 : (e.op == 7) = true := by rw [hop]; rfl
 have GP := hop
 obtain ⟨⟨A1, c1, v1, r1⟩, ho1⟩ := id h
 obtain ⟨⟨A3, c3, v3, -⟩, ⟨A4, c4, v4, -⟩⟩ := id ho1
 have hv : evA e = .agg #[.int .i64 e.op, .string (mkB e.id), .string (mkB e.other), .string (mkB e.node), .int .i64 e.x, .int .i64 e.y, .string (mkB e.key), .string (mkB e.value), .slice A1 e.refs.length c1, .string (mkB e.o.c.id), .int .i64 e.o.c.kind, .int .i64 e.o.c.x, .int .i64 e.o.c.y, .slice A3 e.o.c.refs.length c3, .slice A4 e.o.c.tags.length c4] := by unfold evA evL; rw [v1, v3, v4]
 have hb : evA (rbareV e) = .agg #[.int .i64 e.op, .string ⟨#[]⟩, .string ⟨#[]⟩, .string (mkB e.node), .int .i64 e.x, .int .i64 e.y, .string (mkB e.key), .string (mkB e.value), .slice A1 e.refs.length c1, .string (mkB e.o.c.id), .int .i64 e.o.c.kind, .int .i64 e.o.c.x, .int .i64 e.o.c.y, .slice A3 e.o.c.refs.length c3, .slice A4 e.o.c.tags.length c4] := by
  unfold evA evL rbareV
  dsimp only
  simp only [hop, if_true, if_false, or_false, false_or, or_true, true_or, v1, v3, v4, zRO]
  try simp
  try rfl
  all_goals (repeat' (first | rfl | assumption | constructor))
 rw [hv, hb]
 obtain ⟨X, hX⟩ : ∃ X, X = (w.alloc (.cells #[.int .i64 e.op, .string (mkB e.id), .string (mkB e.other), .string (mkB e.node), .int .i64 e.x, .int .i64 e.y, .string (mkB e.key), .string (mkB e.value), .slice A1 e.refs.length c1, .string (mkB e.o.c.id), .int .i64 e.o.c.kind, .int .i64 e.o.c.x, .int .i64 e.o.c.y, .slice A3 e.o.c.refs.length c3, .slice A4 e.o.c.tags.length c4] 93)).alloc (.cells #[.int .i64 0, .string ⟨#[]⟩, .string ⟨#[]⟩, .string ⟨#[]⟩, .int .i64 0, .int .i64 0, .string ⟨#[]⟩, .string ⟨#[]⟩, .slice none 0 0, .string ⟨#[]⟩, .int .i64 0, .int .i64 0, .int .i64 0, .slice none 0 0, .slice none 0 0] 93) := ⟨_, rfl⟩
 have BX : Below w.heap.size w X := by rw [hX]; exact ((Below.refl _ _).alloc (Nat.le_refl _) _).alloc (by simp) _
 have E0 : X.heap[w.heap.size]? = some (.cells #[.int .i64 e.op, .string (mkB e.id), .string (mkB e.other), .string (mkB e.node), .int .i64 e.x, .int .i64 e.y, .string (mkB e.key), .string (mkB e.value), .slice A1 e.refs.length c1, .string (mkB e.o.c.id), .int .i64 e.o.c.kind, .int .i64 e.o.c.x, .int .i64 e.o.c.y, .slice A3 e.o.c.refs.length c3, .slice A4 e.o.c.tags.length c4] 93 (0, 0)) := by rw [hX]; exact (alloc_old _ _ (by simp)).trans (heap_alloc_new w _)
 have E1 : X.heap[w.heap.size + 1]? = some (.cells #[.int .i64 0, .string ⟨#[]⟩, .string ⟨#[]⟩, .string ⟨#[]⟩, .int .i64 0, .int .i64 0, .string ⟨#[]⟩, .string ⟨#[]⟩, .slice none 0 0, .string ⟨#[]⟩, .int .i64 0, .int .i64 0, .int .i64 0, .slice none 0 0, .slice none 0 0] 93 (0, 0)) := by rw [hX]; exact alloc_new' _ _ _ (by simp)
 have EF : ((X.setCell ⟨w.heap.size, 1, none⟩ (.string ⟨#[]⟩)).setCell ⟨w.heap.size, 2, none⟩ (.string ⟨#[]⟩)).heap[w.heap.size]? = some (.cells #[.int .i64 e.op, .string ⟨#[]⟩, .string ⟨#[]⟩, .string (mkB e.node), .int .i64 e.x, .int .i64 e.y, .string (mkB e.key), .string (mkB e.value), .slice A1 e.refs.length c1, .string (mkB e.o.c.id), .int .i64 e.o.c.kind, .int .i64 e.o.c.x, .int .i64 e.o.c.y, .slice A3 e.o.c.refs.length c3, .slice A4 e.o.c.tags.length c4] 93 (0, 0)) := row_put8 (g := w.heap.size) (k := 2) (row_put8 (g := w.heap.size) (k := 1) (E0) (.string ⟨#[]⟩)) (.string ⟨#[]⟩)
 have EG : ((X.setCell ⟨w.heap.size, 1, none⟩ (.string ⟨#[]⟩)).setCell ⟨w.heap.size, 2, none⟩ (.string ⟨#[]⟩)).heap[w.heap.size + 1]? = some (.cells #[.int .i64 0, .string ⟨#[]⟩, .string ⟨#[]⟩, .string ⟨#[]⟩, .int .i64 0, .int .i64 0, .string ⟨#[]⟩, .string ⟨#[]⟩, .slice none 0 0, .string ⟨#[]⟩, .int .i64 0, .int .i64 0, .int .i64 0, .slice none 0 0, .slice none 0 0] 93 (0, 0)) := by
  repeat rw [Below.heap_setCell _ _ _ _ (by simp)]
  exact E1
 have BF : Below w.heap.size w ((X.setCell ⟨w.heap.size, 1, none⟩ (.string ⟨#[]⟩)).setCell ⟨w.heap.size, 2, none⟩ (.string ⟨#[]⟩)) := Below.setCell (p := ⟨w.heap.size, 2, none⟩) (Below.setCell (p := ⟨w.heap.size, 1, none⟩) (BX) (Nat.le_refl _) (.string ⟨#[]⟩)) (Nat.le_refl _) (.string ⟨#[]⟩)
 have RF : Hid (((X.setCell ⟨w.heap.size, 1, none⟩ (.string ⟨#[]⟩)).setCell ⟨w.heap.size, 2, none⟩ (.string ⟨#[]⟩)).rangeAt w.heap.size 0 [.int .i64 e.op, .string ⟨#[]⟩, .string ⟨#[]⟩, .string (mkB e.node), .int .i64 e.x, .int .i64 e.y, .string (mkB e.key), .string (mkB e.value), .slice A1 e.refs.length c1, .string (mkB e.o.c.id), .int .i64 e.o.c.kind, .int .i64 e.o.c.x, .int .i64 e.o.c.y, .slice A3 e.o.c.refs.length c3, .slice A4 e.o.c.tags.length c4]) := Lib.hid (range_of_row EF)
 have RG := range_setCells (cs := #[.int .i64 e.op, .string ⟨#[]⟩, .string ⟨#[]⟩, .string (mkB e.node), .int .i64 e.x, .int .i64 e.y, .string (mkB e.key), .string (mkB e.value), .slice A1 e.refs.length c1, .string (mkB e.o.c.id), .int .i64 e.o.c.kind, .int .i64 e.o.c.x, .int .i64 e.o.c.y, .slice A3 e.o.c.refs.length c3, .slice A4 e.o.c.tags.length c4]) EG rfl
 have BG := Lib.hid (below_setCells (w' := ((X.setCell ⟨w.heap.size, 1, none⟩ (.string ⟨#[]⟩)).setCell ⟨w.heap.size, 2, none⟩ (.string ⟨#[]⟩))) (w.heap.size + 1) [.int .i64 e.op, .string ⟨#[]⟩, .string ⟨#[]⟩, .string (mkB e.node), .int .i64 e.x, .int .i64 e.y, .string (mkB e.key), .string (mkB e.value), .slice A1 e.refs.length c1, .string (mkB e.o.c.id), .int .i64 e.o.c.kind, .int .i64 e.o.c.x, .int .i64 e.o.c.y, .slice A3 e.o.c.refs.length c3, .slice A4 e.o.c.tags.length c4] 0 _ BF (by omega))
 have LV := Lib.hid (run_loadVar_mid (P := Tryz.prog) (((X.setCell ⟨w.heap.size, 1, none⟩ (.string ⟨#[]⟩)).setCell ⟨w.heap.size, 2, none⟩ (.string ⟨#[]⟩)).setCells (w.heap.size + 1) 0 [.int .i64 e.op, .string ⟨#[]⟩, .string ⟨#[]⟩, .string (mkB e.node), .int .i64 e.x, .int .i64 e.y, .string (mkB e.key), .string (mkB e.value), .slice A1 e.refs.length c1, .string (mkB e.o.c.id), .int .i64 e.o.c.kind, .int .i64 e.o.c.x, .int .i64 e.o.c.y, .slice A3 e.o.c.refs.length c3, .slice A4 e.o.c.tags.length c4]) (w.heap.size + 1) 0 93 [.int .i64 e.op, .string ⟨#[]⟩, .string ⟨#[]⟩, .string (mkB e.node), .int .i64 e.x, .int .i64 e.y, .string (mkB e.key), .string (mkB e.value), .slice A1 e.refs.length c1, .string (mkB e.o.c.id), .int .i64 e.o.c.kind, .int .i64 e.o.c.x, .int .i64 e.o.c.y, .slice A3 e.o.c.refs.length c3, .slice A4 e.o.c.tags.length c4] _ RG Tryz.underlying93 rfl (by kernel_rfl))
 have TH := Lib.hid (there_of_row EG (Nat.le_refl 15))
 have x0 := load_block (i := 0) E0 rfl
 have x1 := load_block (i := 1) E0 rfl
 have x2 := load_block (i := 2) E0 rfl
 have f1 := free_blk E0 1
 have f2 := free_blk E0 2
 have X0 := Lib.hid hX
 clear hX h ho1 r1 hv hb v1 v3 v4 BX E0 E1 EF EG BF RG GP
 clear hop G1 G2 G3 G4 G6
 go_enter Tryz.func206, Tryz.ntmps206
 go_upto_region 1 with fail
 rw [← X0.out]
 clear X0
 go_upto_region 15 with fail
 refine wp_region_lit ?_
 refine wpList_load_mid rfl 93 (.tmp 1) rfl w.heap.size 0 rfl [.int .i64 e.op, .string ⟨#[]⟩, .string ⟨#[]⟩, .string (mkB e.node), .int .i64 e.x, .int .i64 e.y, .string (mkB e.key), .string (mkB e.value), .slice A1 e.refs.length c1, .string (mkB e.o.c.id), .int .i64 e.o.c.kind, .int .i64 e.o.c.x, .int .i64 e.o.c.y, .slice A3 e.o.c.refs.length c3, .slice A4 e.o.c.tags.length c4] _ RF.out Tryz.underlying93 rfl (by kernel_rfl) ?_
 refine wpList_store_mid rfl 93 (.tmp 2) (.tmp 36) rfl (w.heap.size + 1) 0 #[.int .i64 e.op, .string ⟨#[]⟩, .string ⟨#[]⟩, .string (mkB e.node), .int .i64 e.x, .int .i64 e.y, .string (mkB e.key), .string (mkB e.value), .slice A1 e.refs.length c1, .string (mkB e.o.c.id), .int .i64 e.o.c.kind, .int .i64 e.o.c.x, .int .i64 e.o.c.y, .slice A3 e.o.c.refs.length c3, .slice A4 e.o.c.tags.length c4] rfl rfl TH.out (by kernel_rfl) (by simp [Value.oneCell']) ?_
 go_simp
 go_wp2_with fail
 exact bodyPost_ret (results_cell1 (i := 2) (t := 93) rfl rfl LV.out) rfl ⟨rfl, BG.out⟩
theorem rbare_0 (e : EV) (w : World) (h : EvIs w e) (g1 : ¬ e.op = 1) (g2 : ¬ e.op = 2) (g3 : ¬ e.op = 3) (g4 : ¬ e.op = 4) (g6 : ¬ e.op = 6) (g7 : ¬ e.op = 7) :
  Calls Tryz.prog 206 #[evA e] w fun en w' => en = .returned (evA (rbareV e)) ∧ Below w.heap.size w w' := by
 have G1 := g1
 have e1 : (e.op == 1) = false := by simpa using g1
 have G2 := g2
 have e2 : (e.op == 2) = false := by simpa using g2
 have G3 := g3
 have e3 : (e.op == 3) = false := by simpa using g3
 have G4 := g4
 have e4 : (e.op == 4) = false := by simpa using g4
 have G6 := g6
 have e6 : (e.op == 6) = false := by simpa using g6
 have G7 := g7
 have e7 : (e.op == 7) = false := by simpa using g7
 obtain ⟨⟨A1, c1, v1, r1⟩, ho1⟩ := id h
 obtain ⟨⟨A3, c3, v3, -⟩, ⟨A4, c4, v4, -⟩⟩ := id ho1
 have hv : evA e = .agg #[.int .i64 e.op, .string (mkB e.id), .string (mkB e.other), .string (mkB e.node), .int .i64 e.x, .int .i64 e.y, .string (mkB e.key), .string (mkB e.value), .slice A1 e.refs.length c1, .string (mkB e.o.c.id), .int .i64 e.o.c.kind, .int .i64 e.o.c.x, .int .i64 e.o.c.y, .slice A3 e.o.c.refs.length c3, .slice A4 e.o.c.tags.length c4] := by unfold evA evL; rw [v1, v3, v4]
 have hb : evA (rbareV e) = .agg #[.int .i64 e.op, .string ⟨#[]⟩, .string (mkB e.other), .string (mkB e.node), .int .i64 e.x, .int .i64 e.y, .string (mkB e.key), .string (mkB e.value), .slice A1 e.refs.length c1, .string (mkB e.o.c.id), .int .i64 e.o.c.kind, .int .i64 e.o.c.x, .int .i64 e.o.c.y, .slice A3 e.o.c.refs.length c3, .slice A4 e.o.c.tags.length c4] := by
  unfold evA evL rbareV
  dsimp only
  simp only [G1, G2, G3, G4, G6, G7, if_true, if_false, or_false, false_or, or_true, true_or, v1, v3, v4, zRO]
  try simp
  try rfl
  all_goals (repeat' (first | rfl | assumption | constructor))
 rw [hv, hb]
 obtain ⟨X, hX⟩ : ∃ X, X = (w.alloc (.cells #[.int .i64 e.op, .string (mkB e.id), .string (mkB e.other), .string (mkB e.node), .int .i64 e.x, .int .i64 e.y, .string (mkB e.key), .string (mkB e.value), .slice A1 e.refs.length c1, .string (mkB e.o.c.id), .int .i64 e.o.c.kind, .int .i64 e.o.c.x, .int .i64 e.o.c.y, .slice A3 e.o.c.refs.length c3, .slice A4 e.o.c.tags.length c4] 93)).alloc (.cells #[.int .i64 0, .string ⟨#[]⟩, .string ⟨#[]⟩, .string ⟨#[]⟩, .int .i64 0, .int .i64 0, .string ⟨#[]⟩, .string ⟨#[]⟩, .slice none 0 0, .string ⟨#[]⟩, .int .i64 0, .int .i64 0, .int .i64 0, .slice none 0 0, .slice none 0 0] 93) := ⟨_, rfl⟩
 have BX : Below w.heap.size w X := by rw [hX]; exact ((Below.refl _ _).alloc (Nat.le_refl _) _).alloc (by simp) _
 have E0 : X.heap[w.heap.size]? = some (.cells #[.int .i64 e.op, .string (mkB e.id), .string (mkB e.other), .string (mkB e.node), .int .i64 e.x, .int .i64 e.y, .string (mkB e.key), .string (mkB e.value), .slice A1 e.refs.length c1, .string (mkB e.o.c.id), .int .i64 e.o.c.kind, .int .i64 e.o.c.x, .int .i64 e.o.c.y, .slice A3 e.o.c.refs.length c3, .slice A4 e.o.c.tags.length c4] 93 (0, 0)) := by rw [hX]; exact (alloc_old _ _ (by simp)).trans (heap_alloc_new w _)
 have E1 : X.heap[w.heap.size + 1]? = some (.cells #[.int .i64 0, .string ⟨#[]⟩, .string ⟨#[]⟩, .string ⟨#[]⟩, .int .i64 0, .int .i64 0, .string ⟨#[]⟩, .string ⟨#[]⟩, .slice none 0 0, .string ⟨#[]⟩, .int .i64 0, .int .i64 0, .int .i64 0, .slice none 0 0, .slice none 0 0] 93 (0, 0)) := by rw [hX]; exact alloc_new' _ _ _ (by simp)
 have EF : (X.setCell ⟨w.heap.size, 1, none⟩ (.string ⟨#[]⟩)).heap[w.heap.size]? = some (.cells #[.int .i64 e.op, .string ⟨#[]⟩, .string (mkB e.other), .string (mkB e.node), .int .i64 e.x, .int .i64 e.y, .string (mkB e.key), .string (mkB e.value), .slice A1 e.refs.length c1, .string (mkB e.o.c.id), .int .i64 e.o.c.kind, .int .i64 e.o.c.x, .int .i64 e.o.c.y, .slice A3 e.o.c.refs.length c3, .slice A4 e.o.c.tags.length c4] 93 (0, 0)) := row_put8 (g := w.heap.size) (k := 1) (E0) (.string ⟨#[]⟩)
 have EG : (X.setCell ⟨w.heap.size, 1, none⟩ (.string ⟨#[]⟩)).heap[w.heap.size + 1]? = some (.cells #[.int .i64 0, .string ⟨#[]⟩, .string ⟨#[]⟩, .string ⟨#[]⟩, .int .i64 0, .int .i64 0, .string ⟨#[]⟩, .string ⟨#[]⟩, .slice none 0 0, .string ⟨#[]⟩, .int .i64 0, .int .i64 0, .int .i64 0, .slice none 0 0, .slice none 0 0] 93 (0, 0)) := by
  repeat rw [Below.heap_setCell _ _ _ _ (by simp)]
  exact E1
 have BF : Below w.heap.size w (X.setCell ⟨w.heap.size, 1, none⟩ (.string ⟨#[]⟩)) := Below.setCell (p := ⟨w.heap.size, 1, none⟩) (BX) (Nat.le_refl _) (.string ⟨#[]⟩)
 have RF : Hid ((X.setCell ⟨w.heap.size, 1, none⟩ (.string ⟨#[]⟩)).rangeAt w.heap.size 0 [.int .i64 e.op, .string ⟨#[]⟩, .string (mkB e.other), .string (mkB e.node), .int .i64 e.x, .int .i64 e.y, .string (mkB e.key), .string (mkB e.value), .slice A1 e.refs.length c1, .string (mkB e.o.c.id), .int .i64 e.o.c.kind, .int .i64 e.o.c.x, .int .i64 e.o.c.y, .slice A3 e.o.c.refs.length c3, .slice A4 e.o.c.tags.length c4]) := Lib.hid (range_of_row EF)
 have RG := range_setCells (cs := #[.int .i64 e.op, .string ⟨#[]⟩, .string (mkB e.other), .string (mkB e.node), .int .i64 e.x, .int .i64 e.y, .string (mkB e.key), .string (mkB e.value), .slice A1 e.refs.length c1, .string (mkB e.o.c.id), .int .i64 e.o.c.kind, .int .i64 e.o.c.x, .int .i64 e.o.c.y, .slice A3 e.o.c.refs.length c3, .slice A4 e.o.c.tags.length c4]) EG rfl
 have BG := Lib.hid (below_setCells (w' := (X.setCell ⟨w.heap.size, 1, none⟩ (.string ⟨#[]⟩))) (w.heap.size + 1) [.int .i64 e.op, .string ⟨#[]⟩, .string (mkB e.other), .string (mkB e.node), .int .i64 e.x, .int .i64 e.y, .string (mkB e.key), .string (mkB e.value), .slice A1 e.refs.length c1, .string (mkB e.o.c.id), .int .i64 e.o.c.kind, .int .i64 e.o.c.x, .int .i64 e.o.c.y, .slice A3 e.o.c.refs.length c3, .slice A4 e.o.c.tags.length c4] 0 _ BF (by omega))
 have LV := Lib.hid (run_loadVar_mid (P := Tryz.prog) ((X.setCell ⟨w.heap.size, 1, none⟩ (.string ⟨#[]⟩)).setCells (w.heap.size + 1) 0 [.int .i64 e.op, .string ⟨#[]⟩, .string (mkB e.other), .string (mkB e.node), .int .i64 e.x, .int .i64 e.y, .string (mkB e.key), .string (mkB e.value), .slice A1 e.refs.length c1, .string (mkB e.o.c.id), .int .i64 e.o.c.kind, .int .i64 e.o.c.x, .int .i64 e.o.c.y, .slice A3 e.o.c.refs.length c3, .slice A4 e.o.c.tags.length c4]) (w.heap.size + 1) 0 93 [.int .i64 e.op, .string ⟨#[]⟩, .string (mkB e.other), .string (mkB e.node), .int .i64 e.x, .int .i64 e.y, .string (mkB e.key), .string (mkB e.value), .slice A1 e.refs.length c1, .string (mkB e.o.c.id), .int .i64 e.o.c.kind, .int .i64 e.o.c.x, .int .i64 e.o.c.y, .slice A3 e.o.c.refs.length c3, .slice A4 e.o.c.tags.length c4] _ RG Tryz.underlying93 rfl (by kernel_rfl))
 have TH := Lib.hid (there_of_row EG (Nat.le_refl 15))
 have x0 := load_block (i := 0) E0 rfl
 have x1 := load_block (i := 1) E0 rfl
 have f1 := free_blk E0 1
 have X0 := Lib.hid hX
 clear hX h ho1 r1 hv hb v1 v3 v4 BX E0 E1 EF EG BF RG
 clear g1 G1 g2 G2 g3 G3 g4 G4 g6 G6 g7 G7
 go_enter Tryz.func206, Tryz.ntmps206
 go_upto_region 1 with fail
 rw [← X0.out]
 clear X0
 go_upto_region 15 with fail
 refine wp_region_lit ?_
 refine wpList_load_mid rfl 93 (.tmp 1) rfl w.heap.size 0 rfl [.int .i64 e.op, .string ⟨#[]⟩, .string (mkB e.other), .string (mkB e.node), .int .i64 e.x, .int .i64 e.y, .string (mkB e.key), .string (mkB e.value), .slice A1 e.refs.length c1, .string (mkB e.o.c.id), .int .i64 e.o.c.kind, .int .i64 e.o.c.x, .int .i64 e.o.c.y, .slice A3 e.o.c.refs.length c3, .slice A4 e.o.c.tags.length c4] _ RF.out Tryz.underlying93 rfl (by kernel_rfl) ?_
 refine wpList_store_mid rfl 93 (.tmp 2) (.tmp 36) rfl (w.heap.size + 1) 0 #[.int .i64 e.op, .string ⟨#[]⟩, .string (mkB e.other), .string (mkB e.node), .int .i64 e.x, .int .i64 e.y, .string (mkB e.key), .string (mkB e.value), .slice A1 e.refs.length c1, .string (mkB e.o.c.id), .int .i64 e.o.c.kind, .int .i64 e.o.c.x, .int .i64 e.o.c.y, .slice A3 e.o.c.refs.length c3, .slice A4 e.o.c.tags.length c4] rfl rfl TH.out (by kernel_rfl) (by simp [Value.oneCell']) ?_
 go_simp
 go_wp2_with fail
 exact bodyPost_ret (results_cell1 (i := 2) (t := 93) rfl rfl LV.out) rfl ⟨rfl, BG.out⟩
theorem rbare_any (e : EV) (w : World) (h : EvIs w e) :
  Calls Tryz.prog 206 #[evA e] w fun en w' => en = .returned (evA (rbareV e)) ∧ Below w.heap.size w w' := by
 by_cases h1 : e.op = 1
 ·exact rbare_1 e w h h1
 by_cases h2 : e.op = 2
 ·exact rbare_2 e w h h2
 by_cases h3 : e.op = 3
 ·exact rbare_3 e w h h3
 by_cases h4 : e.op = 4
 ·exact rbare_4 e w h h4
 by_cases h6 : e.op = 6
 ·exact rbare_6 e w h h6
 by_cases h7 : e.op = 7
 ·exact rbare_7 e w h h7
 exact rbare_0 e w h h1 h2 h3 h4 h6 h7
end Go.Proofs.YtniklmikdkjgiaaGreatDoor
namespace Go.Proofs.YtniklmikdkjgiaaGreatDoor
open Go.RowKit
def zeroE (e : Ed) : Bool := decide (e.id = []) && decide (e.other = []) && decide (e.node = []) && (decide (e.x = 0) && decide (e.y = 0)) && decide (e.key = []) && decide (e.value = []) && decide (e.refs = []) && At.sameO e.ob zOb
def rbareE (e : Ed) : Ed :=
 ⟨e.op, if e.op = 1 then e.id else [], if e.op = 6 ∨ e.op = 7 then [] else e.other, if e.op = 6 then [] else e.node, if e.op = 2 then 0 else e.x, if e.op = 2 then 0 else e.y, if e.op = 3 then [] else e.key, if e.op = 3 then [] else e.value, if e.op = 4 then [] else e.refs, if e.op = 1 then zOb else e.ob⟩
theorem bare_zero (e : Ed) (h : 1 ≤ e.op ∧ e.op ≤ 7) : sameE (bareE e) e = zeroE (rbareE e) := by
 obtain ⟨op, id, other, node, x, y, key, value, refs, ob⟩ := e
 dsimp only at h
 have hop : op = 1 ∨ op = 2 ∨ op = 3 ∨ op = 4 ∨ op = 5 ∨ op = 6 ∨ op = 7 := by omega
 have sO : ∀ a b : At.Ob, At.sameO a b = At.sameO b a := by
  intro a b; rw [Bool.eq_iff_iff, At.sameO_iff, At.sameO_iff]; exact eq_comm
 have sR : ∀ a : At.Ob, At.sameO a a = true := fun a => At.sameO_iff.2 rfl
 rcases hop with rfl | rfl | rfl | rfl | rfl | rfl | rfl
 all_goals
  unfold sameE bareE zeroE rbareE
  simp [sO zOb, sR, eq_comm (a := ([] : Tx)), eq_comm (a := ([] : List Tx)), eq_comm (a := (0 : Int))]
  try (rw [Bool.eq_iff_iff]; simp [Bool.and_eq_true]; constructor <;> (intro h; simp_all))
theorem on_eq (x y : Int) : (decide (0 ≤ min x y) && decide (max x y < 1048576)) = At.onB x y := by
 unfold At.onB
 rw [Bool.eq_iff_iff]; simp [Bool.and_eq_true]; omega
def namesR (e : Ed) : List Tx :=
 if e.op = 3 then [e.id, e.key] else if e.op = 4 then e.id :: e.refs else if e.op = 6 then [e.id, e.node, e.other] else if e.op = 7 then [e.id, e.other] else [e.id]
theorem val_off {e : Ed} (h : ¬ (1 ≤ e.op ∧ e.op ≤ 7)) : validE e = false := by
 have : okE e = false := by unfold okE; repeat (rw [if_neg (by omega)])
 unfold validE; rw [this]; rfl
theorem val_bad {e : Ed} (h : 1 ≤ e.op ∧ e.op ≤ 7) (hz : zeroE (rbareE e) = false) : validE e = false := by
 unfold validE; rw [bare_zero e h, hz, Bool.and_false]
theorem val_ok {e : Ed} (h : 1 ≤ e.op ∧ e.op ≤ 7) (hz : zeroE (rbareE e) = true) : validE e = okE e := by
 unfold validE; rw [bare_zero e h, hz, Bool.and_true]
theorem val_zs {e : Ed} (h3 : ¬ e.op = 3) (hz : zeroE (rbareE e) = true) : e.value.length ≤ 200 := by
 unfold zeroE rbareE at hz
 simp only [if_neg h3, Bool.and_eq_true, decide_eq_true_eq] at hz
 rw [hz.1.1.2]; simp
theorem val_rest {e : Ed} (h : 1 ≤ e.op ∧ e.op ≤ 7) (h1 : ¬ e.op = 1) (hz : zeroE (rbareE e) = true) :
  validE e = ((namesR e).all At.nameB && ((!(decide (e.op = 4) && (decide (e.refs.length < 1) || decide (2000 < e.refs.length)))) && (decide (e.value.length ≤ 200) && (!decide (e.op = 2) || At.onB e.x e.y)))) := by
 rw [val_ok h hz]
 unfold okE namesR
 rw [if_neg h1]
 by_cases h2 : e.op = 2
 ·have v := val_zs (by omega) hz
  simp [h2, v, ← on_eq, Bool.and_assoc]
 by_cases h3 : e.op = 3
 ·simp [h3, Bool.and_assoc]
 have v := val_zs h3 hz
 by_cases h4 : e.op = 4
 ·simp [h4, v]
  rw [Bool.eq_iff_iff]; simp [Bool.and_eq_true]
  constructor
  ·rintro ⟨⟨⟨a, b⟩, c⟩, d⟩; exact ⟨⟨a, d⟩, fun hh => by rw [hh] at b; simp at b, c⟩
  ·rintro ⟨⟨a, d⟩, b, c⟩; exact ⟨⟨⟨a, by cases hr : e.refs with | nil => exact absurd hr b | cons x l => simp⟩, c⟩, d⟩
 by_cases h5 : e.op = 5
 ·simp [h5, v]
 by_cases h6 : e.op = 6
 ·simp [h6, v]
 have h7 : e.op = 7 := by omega
 simp [h7, v]
theorem zero_parts {e : Ed} (h : zeroE e = true) : e.id = [] ∧ e.other = [] ∧ e.node = [] ∧ e.x = 0 ∧ e.y = 0 ∧ e.key = [] ∧ e.value = [] ∧ e.refs = [] ∧ e.ob = zOb := by
 unfold zeroE at h
 simp only [Bool.and_eq_true, decide_eq_true_eq, At.sameO_iff] at h
 obtain ⟨⟨⟨⟨⟨⟨⟨a, b⟩, c⟩, d, d2⟩, f⟩, g⟩, i⟩, j⟩ := h
 exact ⟨a, b, c, d, d2, f, g, i, j⟩
theorem val_k {e : Ed} {k : Int} (hk : e.op = k) (h : 2 ≤ k ∧ k ≤ 7) (hz : zeroE (rbareE e) = true) :
  validE e = ((namesR e).all At.nameB && ((!(decide (k = 4) && (decide (e.refs.length < 1) || decide (2000 < e.refs.length)))) && (decide (e.value.length ≤ 200) && (!decide (k = 2) || At.onB e.x e.y)))) := by
 rw [val_rest (by omega) (by omega) hz, hk]
theorem val_1 {e : Ed} (hk : e.op = 1) (hz : zeroE (rbareE e) = true) : validE e = At.validO e.ob := by
 rw [val_ok (by omega) hz]; unfold okE; rw [if_pos hk]
theorem val_2 {e : Ed} (hk : e.op = 2) (hz : zeroE (rbareE e) = true) : validE e = ([e.id].all At.nameB && At.onB e.x e.y) := by
 rw [val_k hk (by decide) hz, decide_eq_true (val_zs (by omega) hz)]; unfold namesR; simp [hk]
theorem val_3 {e : Ed} (hk : e.op = 3) (hz : zeroE (rbareE e) = true) : validE e = ([e.id, e.key].all At.nameB && decide (e.value.length ≤ 200)) := by
 rw [val_k hk (by decide) hz]; unfold namesR; simp [hk]
theorem val_4 {e : Ed} (hk : e.op = 4) (hz : zeroE (rbareE e) = true) : validE e = (([e.id] ++ e.refs).all At.nameB && !(decide (e.refs.length < 1) || decide (2000 < e.refs.length))) := by
 rw [val_k hk (by decide) hz, decide_eq_true (val_zs (by omega) hz)]; unfold namesR; simp [hk]
theorem val_5 {e : Ed} (hk : e.op = 5) (hz : zeroE (rbareE e) = true) : validE e = [e.id].all At.nameB := by
 rw [val_k hk (by decide) hz, decide_eq_true (val_zs (by omega) hz)]; unfold namesR; simp [hk]
theorem val_6 {e : Ed} (hk : e.op = 6) (hz : zeroE (rbareE e) = true) : validE e = [e.id, e.node, e.other].all At.nameB := by
 rw [val_k hk (by decide) hz, decide_eq_true (val_zs (by omega) hz)]; unfold namesR; simp [hk]
theorem val_7 {e : Ed} (hk : e.op = 7) (hz : zeroE (rbareE e) = true) : validE e = [e.id, e.other].all At.nameB := by
 rw [val_k hk (by decide) hz, decide_eq_true (val_zs (by omega) hz)]; unfold namesR; simp [hk]
theorem rbare_c (e : EV) : (rbareV e).c = rbareE e.c := by
 by_cases h : e.op = 1
 ·have h1 : (rbareV e).c.ob = (rbareE e.c).ob := by
   show (if e.op = 1 then zRO else e.o).c = (if e.op = 1 then zOb else e.o.c)
   rw [if_pos h, if_pos h]; rfl
  show Ed.mk _ _ _ _ _ _ _ _ _ (if e.op = 1 then zRO else e.o).c = Ed.mk _ _ _ _ _ _ _ _ _ (if e.op = 1 then zOb else e.o.c)
  rw [if_pos h, if_pos h]; rfl
 ·show Ed.mk _ _ _ _ _ _ _ _ _ (if e.op = 1 then zRO else e.o).c = Ed.mk _ _ _ _ _ _ _ _ _ (if e.op = 1 then zOb else e.o.c)
  rw [if_neg h, if_neg h]; rfl
theorem rbare_is {w : World} {e : EV} (h : EvIs w e) : EvIs w (rbareV e) := by
 refine ⟨?_, ?_⟩
 ·show SlIs w (if e.op = 4 then .slice none 0 0 else e.rv) (if e.op = 4 then [] else e.refs).length (strsC (if e.op = 4 then [] else e.refs))
  by_cases h4 : e.op = 4
  ·simp only [if_pos h4]; exact zSl w
  ·simp only [if_neg h4]; exact h.rs
 ·show ObIs w (if e.op = 1 then zRO else e.o)
  by_cases h1 : e.op = 1
  ·simp only [if_pos h1]; exact zIs w
  ·simp only [if_neg h1]; exact h.ob
theorem rbare_sz {e : EV} (h : EdSz e.c) : EdSz (rbareV e).c := by
 have n : ∀ s ∈ ([] : List Tx), s.length ≤ 1000000 := by intro s h; cases h
 have z : ([] : Tx).length ≤ 1000000 := by decide
 have z0 : ([] : List Tx).length ≤ 1000000 := by decide
 have zr : zOb.refs.length ≤ 100000 := by decide
 have I : ∀ (p : Prop) [Decidable p] (a b : Tx), a.length ≤ 1000000 → b.length ≤ 1000000 → (if p then a else b).length ≤ 1000000 := by
  intro p _ a b ha hb; split <;> assumption
 refine ⟨I _ _ _ h.id z, I _ _ _ z h.other, I _ _ _ z h.node, I _ _ _ z h.key, I _ _ _ z h.value, ?_, ?_, ?_, ?_⟩
 ·show (if e.op = 4 then [] else e.refs).length ≤ 1000000
  by_cases h4 : e.op = 4
  ·rw [if_pos h4]; exact z0
  ·rw [if_neg h4]; exact h.refs
 ·show ∀ s ∈ (if e.op = 4 then [] else e.refs), s.length ≤ 1000000
  by_cases h4 : e.op = 4
  ·rw [if_pos h4]; exact n
  ·rw [if_neg h4]; exact h.ref
 ·show ObSz (if e.op = 1 then zRO else e.o).c
  by_cases h1 : e.op = 1
  ·rw [if_pos h1]; exact zSz
  ·rw [if_neg h1]; exact h.ob
 ·show (if e.op = 1 then zRO else e.o).c.refs.length ≤ 100000
  by_cases h1 : e.op = 1
  ·rw [if_pos h1]; exact zr
  ·rw [if_neg h1]; exact h.obr
theorem zero_val {w : World} {e : EV} (h : EvIs w e) (hz : zeroE e.c = true) : ∃ A1 c1 A3 c3 A4 c4,
  evL e = [.int .i64 e.op, .string ⟨#[]⟩, .string ⟨#[]⟩, .string ⟨#[]⟩, .int .i64 0, .int .i64 0, .string ⟨#[]⟩, .string ⟨#[]⟩, .slice A1 0 c1, .string ⟨#[]⟩, .int .i64 0, .int .i64 0, .int .i64 0, .slice A3 0 c3, .slice A4 0 c4] ∧
  roA e.o = .agg #[.string ⟨#[]⟩, .int .i64 0, .int .i64 0, .int .i64 0, .slice A3 0 c3, .slice A4 0 c4] ∧ At.sameO e.o.c zRO.c = true := by
 obtain ⟨a, b, c, d, d2, f, g, i, j⟩ := zero_parts hz
 obtain ⟨A1, c1, v1, -⟩ := h.rs
 obtain ⟨A3, c3, v3, -⟩ := h.ob.rs
 obtain ⟨A4, c4, v4, -⟩ := h.ob.ts
 have a : e.id = [] := a
 have b : e.other = [] := b
 have c : e.node = [] := c
 have d : e.x = 0 := d
 have d2 : e.y = 0 := d2
 have f : e.key = [] := f
 have g : e.value = [] := g
 have i : e.refs = [] := i
 have j : e.o.c = zOb := j
 refine ⟨A1, c1, A3, c3, A4, c4, ?_, ?_, ?_⟩
 ·unfold evL; rw [v1, v3, v4, a, b, c, d, d2, f, g, i, j]; rfl
 ·unfold roA; rw [v3, v4, j]; rfl
 ·rw [j]; exact At.sameO_iff.2 rfl
theorem zRO_val : roA zRO = .agg #[.string ⟨#[]⟩, .int .i64 0, .int .i64 0, .int .i64 0, .slice none 0 0, .slice none 0 0] := rfl
end Go.Proofs.YtniklmikdkjgiaaGreatDoor
