import Derived.Test.YtniklmikdkjgiaaGreatDoorCTD
import Derived.Test.YtniklmikdkjgiaaGreatDoorCTE
import Derived.Test.YtniklmikdkjgiaaGreatDoorCTF
import Derived.Test.YtniklmikdkjgiaaGreatDoorCTG
import Derived.Test.YtniklmikdkjgiaaGreatDoorWD
set_option linter.all false
set_option maxHeartbeats 16000000
set_option maxRecDepth 100000
namespace Go.Proofs.YtniklmikdkjgiaaGreatDoor
open Go.RowKit
theorem rline_5 (e : EV) (w : World) (h : EvIs w e) (hs : EdSz e.c) (hop : e.op = 5) :
  Calls Tryz.prog 167 #[evA e] w fun en w' => en = .returned (.tuple #[.string (mkB (lineF e.c).1), .bool (decide ((lineF e.c).2 = 0))]) ∧ Below w.heap.size w w' := by
 have e1 : (e.op == 1) = false := by rw [hop]; decide
 have e2 : (e.op == 2) = false := by rw [hop]; decide
 have e3 : (e.op == 3) = false := by rw [hop]; decide
 have e4 : (e.op == 4) = false := by rw [hop]; decide
 have e5 : (e.op == 5) = true := by rw [hop]; rfl
 have e6 : (e.op == 6) = false := by rw [hop]; decide
 have e7 : (e.op == 7) = false := by rw [hop]; decide
 have LF : Hid (lineF e.c = (joinL [[100, 114, 111, 112], e.id] [32] ++ [10], 0)) := Lib.hid (by unfold lineF lineW; rw [show e.c.op = 5 from hop]; rfl)
 obtain ⟨⟨A1, c1, v1, r1⟩, ho1⟩ := id h
 obtain ⟨⟨A3, c3, v3, -⟩, ⟨A4, c4, v4, -⟩⟩ := id ho1
 have hv : evA e = .agg #[.int .i64 e.op, .string (mkB e.id), .string (mkB e.other), .string (mkB e.node), .int .i64 e.x, .int .i64 e.y, .string (mkB e.key), .string (mkB e.value), .slice A1 e.refs.length c1, .string (mkB e.o.c.id), .int .i64 e.o.c.kind, .int .i64 e.o.c.x, .int .i64 e.o.c.y, .slice A3 e.o.c.refs.length c3, .slice A4 e.o.c.tags.length c4] := by unfold evA evL; rw [v1, v3, v4]
 rw [hv]
 obtain ⟨X, hX⟩ : ∃ X, X = w.alloc (.cells #[.int .i64 e.op, .string (mkB e.id), .string (mkB e.other), .string (mkB e.node), .int .i64 e.x, .int .i64 e.y, .string (mkB e.key), .string (mkB e.value), .slice A1 e.refs.length c1, .string (mkB e.o.c.id), .int .i64 e.o.c.kind, .int .i64 e.o.c.x, .int .i64 e.o.c.y, .slice A3 e.o.c.refs.length c3, .slice A4 e.o.c.tags.length c4] 93) := ⟨_, rfl⟩
 have BX : Hid (Below w.heap.size w X) := Lib.hid (by rw [hX]; exact (Below.refl _ _).alloc (Nat.le_refl _) _)
 have E0 : X.heap[w.heap.size]? = some (.cells #[.int .i64 e.op, .string (mkB e.id), .string (mkB e.other), .string (mkB e.node), .int .i64 e.x, .int .i64 e.y, .string (mkB e.key), .string (mkB e.value), .slice A1 e.refs.length c1, .string (mkB e.o.c.id), .int .i64 e.o.c.kind, .int .i64 e.o.c.x, .int .i64 e.o.c.y, .slice A3 e.o.c.refs.length c3, .slice A4 e.o.c.tags.length c4] 93 (0, 0)) := by rw [hX]; exact heap_alloc_new w _
 have x0 := load_block (i := 0) E0 rfl
 have x1 := load_block (i := 1) E0 rfl
 have ZS : ∀ s ∈ ([[100, 114, 111, 112], e.id] : List Tx), s.length ≤ 1000000 := by
  intro s hm
  simp at hm
  rcases hm with rfl | rfl
  ·decide
  ·exact hs.id
 have JL := join_len [32] 1000000 [[100, 114, 111, 112], e.id] ZS
 simp only [List.length_cons, List.length_nil] at JL
 have mj := mkB_len (joinL [[100, 114, 111, 112], e.id] [32])
 have WC : Hid (Calls Tryz.prog 186 #[.slice (some ⟨X.heap.size, 0, none⟩) 2 2] (X.alloc (.cells #[.string ⟨#[100, 114, 111, 112]⟩, .string (mkB e.id)] 9)) fun en w' => en = .returned (.string (mkB (joinL [[100, 114, 111, 112], e.id] [32]))) ∧ w' = X.alloc (.cells #[.string ⟨#[100, 114, 111, 112]⟩, .string (mkB e.id)] 9)) := Lib.hid (rwords_any (some ⟨X.heap.size, 0, none⟩) 2 2 [[100, 114, 111, 112], e.id] (X.alloc (.cells #[.string ⟨#[100, 114, 111, 112]⟩, .string (mkB e.id)] 9)) rfl (by decide) ZS (Rd.of_row (heap_alloc_new X _) (List.prefix_refl _)))
 have BA : Hid (Below w.heap.size w (X.alloc (.cells #[.string ⟨#[100, 114, 111, 112]⟩, .string (mkB e.id)] 9))) := Lib.hid (BX.out.alloc BX.out.size _)
 have X0 := Lib.hid hX
 generalize joinL [[100, 114, 111, 112], e.id] [32] = J at *
 have zj : (mkB J).size ≤ 10000000 := by omega
 clear hX E0 h ho1 r1 hv v1 v3 v4 hop ZS JL mj BX
 go_enter Tryz.func167, Tryz.ntmps167
 go_upto_region 1 with fail
 rw [← X0.out]
 clear X0
 go_wp2_with fail
 (with_reducible refine WC.out.mono ?_)
 rintro en u1 ⟨rfl, rfl⟩
 clear WC
 go_wp2_with fail
 go_ret2
 refine ⟨?_, BA.out⟩
 rw [LF.out, ← mkB_app]
 rfl
theorem rline_6 (e : EV) (w : World) (h : EvIs w e) (hs : EdSz e.c) (hop : e.op = 6) :
  Calls Tryz.prog 167 #[evA e] w fun en w' => en = .returned (.tuple #[.string (mkB (lineF e.c).1), .bool (decide ((lineF e.c).2 = 0))]) ∧ Below w.heap.size w w' := by
 have e1 : (e.op == 1) = false := by rw [hop]; decide
 have e2 : (e.op == 2) = false := by rw [hop]; decide
 have e3 : (e.op == 3) = false := by rw [hop]; decide
 have e4 : (e.op == 4) = false := by rw [hop]; decide
 have e5 : (e.op == 5) = false := by rw [hop]; decide
 have e6 : (e.op == 6) = true := by rw [hop]; rfl
 have e7 : (e.op == 7) = false := by rw [hop]; decide
 have LF : Hid (lineF e.c = (joinL [[115, 112, 108, 105, 116], e.id, e.node, e.other] [32] ++ [10], 0)) := Lib.hid (by unfold lineF lineW; rw [show e.c.op = 6 from hop]; rfl)
 obtain ⟨⟨A1, c1, v1, r1⟩, ho1⟩ := id h
 obtain ⟨⟨A3, c3, v3, -⟩, ⟨A4, c4, v4, -⟩⟩ := id ho1
 have hv : evA e = .agg #[.int .i64 e.op, .string (mkB e.id), .string (mkB e.other), .string (mkB e.node), .int .i64 e.x, .int .i64 e.y, .string (mkB e.key), .string (mkB e.value), .slice A1 e.refs.length c1, .string (mkB e.o.c.id), .int .i64 e.o.c.kind, .int .i64 e.o.c.x, .int .i64 e.o.c.y, .slice A3 e.o.c.refs.length c3, .slice A4 e.o.c.tags.length c4] := by unfold evA evL; rw [v1, v3, v4]
 rw [hv]
 obtain ⟨X, hX⟩ : ∃ X, X = w.alloc (.cells #[.int .i64 e.op, .string (mkB e.id), .string (mkB e.other), .string (mkB e.node), .int .i64 e.x, .int .i64 e.y, .string (mkB e.key), .string (mkB e.value), .slice A1 e.refs.length c1, .string (mkB e.o.c.id), .int .i64 e.o.c.kind, .int .i64 e.o.c.x, .int .i64 e.o.c.y, .slice A3 e.o.c.refs.length c3, .slice A4 e.o.c.tags.length c4] 93) := ⟨_, rfl⟩
 have BX : Hid (Below w.heap.size w X) := Lib.hid (by rw [hX]; exact (Below.refl _ _).alloc (Nat.le_refl _) _)
 have E0 : X.heap[w.heap.size]? = some (.cells #[.int .i64 e.op, .string (mkB e.id), .string (mkB e.other), .string (mkB e.node), .int .i64 e.x, .int .i64 e.y, .string (mkB e.key), .string (mkB e.value), .slice A1 e.refs.length c1, .string (mkB e.o.c.id), .int .i64 e.o.c.kind, .int .i64 e.o.c.x, .int .i64 e.o.c.y, .slice A3 e.o.c.refs.length c3, .slice A4 e.o.c.tags.length c4] 93 (0, 0)) := by rw [hX]; exact heap_alloc_new w _
 have x0 := load_block (i := 0) E0 rfl
 have x1 := load_block (i := 1) E0 rfl
 have x3 := load_block (i := 3) E0 rfl
 have x2 := load_block (i := 2) E0 rfl
 have ZS : ∀ s ∈ ([[115, 112, 108, 105, 116], e.id, e.node, e.other] : List Tx), s.length ≤ 1000000 := by
  intro s hm
  simp at hm
  rcases hm with rfl | rfl | rfl | rfl
  ·decide
  ·exact hs.id
  ·exact hs.node
  ·exact hs.other
 have JL := join_len [32] 1000000 [[115, 112, 108, 105, 116], e.id, e.node, e.other] ZS
 simp only [List.length_cons, List.length_nil] at JL
 have mj := mkB_len (joinL [[115, 112, 108, 105, 116], e.id, e.node, e.other] [32])
 have WC : Hid (Calls Tryz.prog 186 #[.slice (some ⟨X.heap.size, 0, none⟩) 4 4] (X.alloc (.cells #[.string ⟨#[115, 112, 108, 105, 116]⟩, .string (mkB e.id), .string (mkB e.node), .string (mkB e.other)] 9)) fun en w' => en = .returned (.string (mkB (joinL [[115, 112, 108, 105, 116], e.id, e.node, e.other] [32]))) ∧ w' = X.alloc (.cells #[.string ⟨#[115, 112, 108, 105, 116]⟩, .string (mkB e.id), .string (mkB e.node), .string (mkB e.other)] 9)) := Lib.hid (rwords_any (some ⟨X.heap.size, 0, none⟩) 4 4 [[115, 112, 108, 105, 116], e.id, e.node, e.other] (X.alloc (.cells #[.string ⟨#[115, 112, 108, 105, 116]⟩, .string (mkB e.id), .string (mkB e.node), .string (mkB e.other)] 9)) rfl (by decide) ZS (Rd.of_row (heap_alloc_new X _) (List.prefix_refl _)))
 have BA : Hid (Below w.heap.size w (X.alloc (.cells #[.string ⟨#[115, 112, 108, 105, 116]⟩, .string (mkB e.id), .string (mkB e.node), .string (mkB e.other)] 9))) := Lib.hid (BX.out.alloc BX.out.size _)
 have X0 := Lib.hid hX
 generalize joinL [[115, 112, 108, 105, 116], e.id, e.node, e.other] [32] = J at *
 have zj : (mkB J).size ≤ 10000000 := by omega
 clear hX E0 h ho1 r1 hv v1 v3 v4 hop ZS JL mj BX
 go_enter Tryz.func167, Tryz.ntmps167
 go_upto_region 1 with fail
 rw [← X0.out]
 clear X0
 go_wp2_with fail
 (with_reducible refine WC.out.mono ?_)
 rintro en u1 ⟨rfl, rfl⟩
 clear WC
 go_wp2_with fail
 go_ret2
 refine ⟨?_, BA.out⟩
 rw [LF.out, ← mkB_app]
 rfl
theorem rline_7 (e : EV) (w : World) (h : EvIs w e) (hs : EdSz e.c) (hop : e.op = 7) :
  Calls Tryz.prog 167 #[evA e] w fun en w' => en = .returned (.tuple #[.string (mkB (lineF e.c).1), .bool (decide ((lineF e.c).2 = 0))]) ∧ Below w.heap.size w w' := by
 have e1 : (e.op == 1) = false := by rw [hop]; decide
 have e2 : (e.op == 2) = false := by rw [hop]; decide
 have e3 : (e.op == 3) = false := by rw [hop]; decide
 have e4 : (e.op == 4) = false := by rw [hop]; decide
 have e5 : (e.op == 5) = false := by rw [hop]; decide
 have e6 : (e.op == 6) = false := by rw [hop]; decide
 have e7 : (e.op == 7) = true := by rw [hop]; rfl
 have LF : Hid (lineF e.c = (joinL [[106, 111, 105, 110], e.id, e.other] [32] ++ [10], 0)) := Lib.hid (by unfold lineF lineW; rw [show e.c.op = 7 from hop]; rfl)
 obtain ⟨⟨A1, c1, v1, r1⟩, ho1⟩ := id h
 obtain ⟨⟨A3, c3, v3, -⟩, ⟨A4, c4, v4, -⟩⟩ := id ho1
 have hv : evA e = .agg #[.int .i64 e.op, .string (mkB e.id), .string (mkB e.other), .string (mkB e.node), .int .i64 e.x, .int .i64 e.y, .string (mkB e.key), .string (mkB e.value), .slice A1 e.refs.length c1, .string (mkB e.o.c.id), .int .i64 e.o.c.kind, .int .i64 e.o.c.x, .int .i64 e.o.c.y, .slice A3 e.o.c.refs.length c3, .slice A4 e.o.c.tags.length c4] := by unfold evA evL; rw [v1, v3, v4]
 rw [hv]
 obtain ⟨X, hX⟩ : ∃ X, X = w.alloc (.cells #[.int .i64 e.op, .string (mkB e.id), .string (mkB e.other), .string (mkB e.node), .int .i64 e.x, .int .i64 e.y, .string (mkB e.key), .string (mkB e.value), .slice A1 e.refs.length c1, .string (mkB e.o.c.id), .int .i64 e.o.c.kind, .int .i64 e.o.c.x, .int .i64 e.o.c.y, .slice A3 e.o.c.refs.length c3, .slice A4 e.o.c.tags.length c4] 93) := ⟨_, rfl⟩
 have BX : Hid (Below w.heap.size w X) := Lib.hid (by rw [hX]; exact (Below.refl _ _).alloc (Nat.le_refl _) _)
 have E0 : X.heap[w.heap.size]? = some (.cells #[.int .i64 e.op, .string (mkB e.id), .string (mkB e.other), .string (mkB e.node), .int .i64 e.x, .int .i64 e.y, .string (mkB e.key), .string (mkB e.value), .slice A1 e.refs.length c1, .string (mkB e.o.c.id), .int .i64 e.o.c.kind, .int .i64 e.o.c.x, .int .i64 e.o.c.y, .slice A3 e.o.c.refs.length c3, .slice A4 e.o.c.tags.length c4] 93 (0, 0)) := by rw [hX]; exact heap_alloc_new w _
 have x0 := load_block (i := 0) E0 rfl
 have x1 := load_block (i := 1) E0 rfl
 have x2 := load_block (i := 2) E0 rfl
 have ZS : ∀ s ∈ ([[106, 111, 105, 110], e.id, e.other] : List Tx), s.length ≤ 1000000 := by
  intro s hm
  simp at hm
  rcases hm with rfl | rfl | rfl
  ·decide
  ·exact hs.id
  ·exact hs.other
 have JL := join_len [32] 1000000 [[106, 111, 105, 110], e.id, e.other] ZS
 simp only [List.length_cons, List.length_nil] at JL
 have mj := mkB_len (joinL [[106, 111, 105, 110], e.id, e.other] [32])
 have WC : Hid (Calls Tryz.prog 186 #[.slice (some ⟨X.heap.size, 0, none⟩) 3 3] (X.alloc (.cells #[.string ⟨#[106, 111, 105, 110]⟩, .string (mkB e.id), .string (mkB e.other)] 9)) fun en w' => en = .returned (.string (mkB (joinL [[106, 111, 105, 110], e.id, e.other] [32]))) ∧ w' = X.alloc (.cells #[.string ⟨#[106, 111, 105, 110]⟩, .string (mkB e.id), .string (mkB e.other)] 9)) := Lib.hid (rwords_any (some ⟨X.heap.size, 0, none⟩) 3 3 [[106, 111, 105, 110], e.id, e.other] (X.alloc (.cells #[.string ⟨#[106, 111, 105, 110]⟩, .string (mkB e.id), .string (mkB e.other)] 9)) rfl (by decide) ZS (Rd.of_row (heap_alloc_new X _) (List.prefix_refl _)))
 have BA : Hid (Below w.heap.size w (X.alloc (.cells #[.string ⟨#[106, 111, 105, 110]⟩, .string (mkB e.id), .string (mkB e.other)] 9))) := Lib.hid (BX.out.alloc BX.out.size _)
 have X0 := Lib.hid hX
 generalize joinL [[106, 111, 105, 110], e.id, e.other] [32] = J at *
 have zj : (mkB J).size ≤ 10000000 := by omega
 clear hX E0 h ho1 r1 hv v1 v3 v4 hop ZS JL mj BX
 go_enter Tryz.func167, Tryz.ntmps167
 go_upto_region 1 with fail
 rw [← X0.out]
 clear X0
 go_wp2_with fail
 (with_reducible refine WC.out.mono ?_)
 rintro en u1 ⟨rfl, rfl⟩
 clear WC
 go_wp2_with fail
 go_ret2
 refine ⟨?_, BA.out⟩
 rw [LF.out, ← mkB_app]
 rfl
theorem rline_1 (e : EV) (w : World) (h : EvIs w e) (hs : EdSz e.c) (hop : e.op = 1) :
  Calls Tryz.prog 167 #[evA e] w fun en w' => en = .returned (.tuple #[.string (mkB (lineF e.c).1), .bool (decide ((lineF e.c).2 = 0))]) ∧ Below w.heap.size w w' := by
 have e1 : (e.op == 1) = true := by rw [hop]; rfl
 have LF : Hid (lineF e.c = ([112, 117, 116, 32] ++ (objTextF e.o.c).1 ++ [10], (objTextF e.o.c).2)) := Lib.hid (by unfold lineF; rw [show e.c.op = 1 from hop]; rfl)
 have RT := fun u (hu : Below w.heap.size w u) => rtext11_any e.o u (h.ob.below hu) hs.ob
 rw [r11T_eq] at RT
 unfold roA at RT
 obtain ⟨⟨A1, c1, v1, r1⟩, ho1⟩ := id h
 obtain ⟨⟨A3, c3, v3, -⟩, ⟨A4, c4, v4, -⟩⟩ := id ho1
 rw [v3, v4] at RT
 have hv : evA e = .agg #[.int .i64 e.op, .string (mkB e.id), .string (mkB e.other), .string (mkB e.node), .int .i64 e.x, .int .i64 e.y, .string (mkB e.key), .string (mkB e.value), .slice A1 e.refs.length c1, .string (mkB e.o.c.id), .int .i64 e.o.c.kind, .int .i64 e.o.c.x, .int .i64 e.o.c.y, .slice A3 e.o.c.refs.length c3, .slice A4 e.o.c.tags.length c4] := by unfold evA evL; rw [v1, v3, v4]
 rw [hv]
 obtain ⟨X, hX⟩ : ∃ X, X = w.alloc (.cells #[.int .i64 e.op, .string (mkB e.id), .string (mkB e.other), .string (mkB e.node), .int .i64 e.x, .int .i64 e.y, .string (mkB e.key), .string (mkB e.value), .slice A1 e.refs.length c1, .string (mkB e.o.c.id), .int .i64 e.o.c.kind, .int .i64 e.o.c.x, .int .i64 e.o.c.y, .slice A3 e.o.c.refs.length c3, .slice A4 e.o.c.tags.length c4] 93) := ⟨_, rfl⟩
 have BX : Hid (Below w.heap.size w X) := Lib.hid (by rw [hX]; exact (Below.refl _ _).alloc (Nat.le_refl _) _)
 have E0 : X.heap[w.heap.size]? = some (.cells #[.int .i64 e.op, .string (mkB e.id), .string (mkB e.other), .string (mkB e.node), .int .i64 e.x, .int .i64 e.y, .string (mkB e.key), .string (mkB e.value), .slice A1 e.refs.length c1, .string (mkB e.o.c.id), .int .i64 e.o.c.kind, .int .i64 e.o.c.x, .int .i64 e.o.c.y, .slice A3 e.o.c.refs.length c3, .slice A4 e.o.c.tags.length c4] 93 (0, 0)) := by rw [hX]; exact heap_alloc_new w _
 have x0 := load_block (i := 0) E0 rfl
 have x9 := load_block (i := 9) E0 rfl
 have x10 := load_block (i := 10) E0 rfl
 have x11 := load_block (i := 11) E0 rfl
 have x12 := load_block (i := 12) E0 rfl
 have x13 := load_block (i := 13) E0 rfl
 have x14 := load_block (i := 14) E0 rfl
 have RX := Lib.hid (RT X BX.out)
 have OL := Lib.hid (objText_len e.o.c)
 have X0 := Lib.hid hX
 generalize (objTextF e.o.c).2 = q at *
 generalize (objTextF e.o.c).1 = s at *
 clear hX E0 h hs ho1 r1 hv v1 v3 v4 hop RT
 go_enter Tryz.func167, Tryz.ntmps167
 go_upto_region 1 with fail
 rw [← X0.out]
 clear X0
 go_wp2_with fail
 (with_reducible refine RX.out.mono ?_)
 rintro en u1 ⟨rfl, b1⟩
 have B1 : Below w.heap.size w u1 := BX.out.trans (b1.mono BX.out.size)
 have ZS : ∀ t ∈ ([[112, 117, 116], s] : List Tx), t.length ≤ 1000000 := by
  intro t hm
  simp at hm
  rcases hm with rfl | rfl
  ·decide
  ·have := OL.out; omega
 have JE : joinL [[112, 117, 116], s] [32] = [112, 117, 116, 32] ++ s := by simp [joinL, Lib.join]
 have WC0 := rwords_any (some ⟨u1.heap.size, 0, none⟩) 2 2 [[112, 117, 116], s] (u1.alloc (.cells #[.string ⟨#[112, 117, 116]⟩, .string (mkB s)] 9)) rfl (by decide) ZS (Rd.of_row (heap_alloc_new u1 _) (List.prefix_refl _))
 rw [JE] at WC0
 have WC := Lib.hid WC0
 have BA : Hid (Below w.heap.size w (u1.alloc (.cells #[.string ⟨#[112, 117, 116]⟩, .string (mkB s)] 9))) := Lib.hid (B1.alloc B1.size _)
 have mj := mkB_len ([112, 117, 116, 32] ++ s)
 have zj : (mkB ([112, 117, 116, 32] ++ s)).size ≤ 100000 := by rw [mj, List.length_append]; have := OL.out; simp; omega
 clear WC0 ZS JE mj b1 RX BX B1 x0 x9 x10 x11 x12 x13 x14
 generalize hJ : [112, 117, 116, 32] ++ s = J at *
 by_cases hq : q = 0
 ·have f0 : ((q : Int) == 0) = true := by rw [hq]; rfl
  have f1 : decide (q = 0) = true := decide_eq_true hq
  have F1 := Lib.hid f1
  clear f1 hq
  go_wp2_with fail
  (with_reducible refine WC.out.mono ?_)
  rintro en u2 ⟨rfl, rfl⟩
  clear WC
  go_wp2_with fail
  go_ret2
  refine ⟨?_, BA.out⟩
  rw [LF.out]
  dsimp only
  rw [F1.out, ← mkB_app]
  rfl
 ·have f0 : ((q : Int) == 0) = false := by simpa using hq
  have f1 : decide (q = 0) = false := decide_eq_false hq
  have F1 := Lib.hid f1
  clear f1 hq
  go_wp2_with fail
  (with_reducible refine WC.out.mono ?_)
  rintro en u2 ⟨rfl, rfl⟩
  clear WC
  go_wp2_with fail
  go_ret2
  refine ⟨?_, BA.out⟩
  rw [LF.out]
  dsimp only
  rw [F1.out, ← mkB_app]
  rfl
theorem rline_3 (e : EV) (w : World) (h : EvIs w e) (hs : EdSz e.c) (hop : e.op = 3) (hp : e.value.length ≤ 1000) :
  Calls Tryz.prog 167 #[evA e] w fun en w' => en = .returned (.tuple #[.string (mkB (lineF e.c).1), .bool (decide ((lineF e.c).2 = 0))]) ∧ Below w.heap.size w w' := by
 have e1 : (e.op == 1) = false := by rw [hop]; decide
 have e2 : (e.op == 2) = false := by rw [hop]; decide
 have e3 : (e.op == 3) = true := by rw [hop]; rfl
 have e4 : (e.op == 4) = false := by rw [hop]; decide
 have e5 : (e.op == 5) = false := by rw [hop]; decide
 have e6 : (e.op == 6) = false := by rw [hop]; decide
 have e7 : (e.op == 7) = false := by rw [hop]; decide
 have QT := Lib.hid (fun u => rquote_any e.value u hs.value)
 have LF : Hid (lineF e.c = (joinL [[116, 97, 103], e.id, e.key, quoteF e.value] [32] ++ [10], 0)) := Lib.hid (by unfold lineF lineW; rw [show e.c.op = 3 from hop]; rfl)
 have ZS : ∀ s ∈ ([[116, 97, 103], e.id, e.key, quoteF e.value] : List Tx), s.length ≤ 1000000 := by
  intro s hm
  simp at hm
  rcases hm with rfl | rfl | rfl | rfl
  ·decide
  ·exact hs.id
  ·exact hs.key
  ·have := escs_len e.value
   unfold quoteF
   rw [List.length_cons, List.length_append, List.length_singleton]
   omega
 obtain ⟨⟨A1, c1, v1, r1⟩, ho1⟩ := id h
 obtain ⟨⟨A3, c3, v3, -⟩, ⟨A4, c4, v4, -⟩⟩ := id ho1
 have hv : evA e = .agg #[.int .i64 e.op, .string (mkB e.id), .string (mkB e.other), .string (mkB e.node), .int .i64 e.x, .int .i64 e.y, .string (mkB e.key), .string (mkB e.value), .slice A1 e.refs.length c1, .string (mkB e.o.c.id), .int .i64 e.o.c.kind, .int .i64 e.o.c.x, .int .i64 e.o.c.y, .slice A3 e.o.c.refs.length c3, .slice A4 e.o.c.tags.length c4] := by unfold evA evL; rw [v1, v3, v4]
 rw [hv]
 obtain ⟨X, hX⟩ : ∃ X, X = w.alloc (.cells #[.int .i64 e.op, .string (mkB e.id), .string (mkB e.other), .string (mkB e.node), .int .i64 e.x, .int .i64 e.y, .string (mkB e.key), .string (mkB e.value), .slice A1 e.refs.length c1, .string (mkB e.o.c.id), .int .i64 e.o.c.kind, .int .i64 e.o.c.x, .int .i64 e.o.c.y, .slice A3 e.o.c.refs.length c3, .slice A4 e.o.c.tags.length c4] 93) := ⟨_, rfl⟩
 have BX : Hid (Below w.heap.size w X) := Lib.hid (by rw [hX]; exact (Below.refl _ _).alloc (Nat.le_refl _) _)
 have E0 : X.heap[w.heap.size]? = some (.cells #[.int .i64 e.op, .string (mkB e.id), .string (mkB e.other), .string (mkB e.node), .int .i64 e.x, .int .i64 e.y, .string (mkB e.key), .string (mkB e.value), .slice A1 e.refs.length c1, .string (mkB e.o.c.id), .int .i64 e.o.c.kind, .int .i64 e.o.c.x, .int .i64 e.o.c.y, .slice A3 e.o.c.refs.length c3, .slice A4 e.o.c.tags.length c4] 93 (0, 0)) := by rw [hX]; exact heap_alloc_new w _
 have EL := lt_of_block E0
 have x0 := load_block (i := 0) E0 rfl
 have y1 : ∀ u, OldB X u → u.cell? ⟨w.heap.size, 1, none⟩ = some (.string (mkB e.id)) := fun u hu => load_block (i := 1) ((hu.block _ EL).trans E0) rfl
 have y6 : ∀ u, OldB X u → u.cell? ⟨w.heap.size, 6, none⟩ = some (.string (mkB e.key)) := fun u hu => load_block (i := 6) ((hu.block _ EL).trans E0) rfl
 have y7 : ∀ u, OldB X u → u.cell? ⟨w.heap.size, 7, none⟩ = some (.string (mkB e.value)) := fun u hu => load_block (i := 7) ((hu.block _ EL).trans E0) rfl
 have JL := join_len [32] 1000000 [[116, 97, 103], e.id, e.key, quoteF e.value] ZS
 simp only [List.length_cons, List.length_nil] at JL
 have mj := mkB_len (joinL [[116, 97, 103], e.id, e.key, quoteF e.value] [32])
 have WC : Hid (∀ u : World, Calls Tryz.prog 186 #[.slice (some ⟨u.heap.size, 0, none⟩) 4 4] (u.alloc (.cells #[.string ⟨#[116, 97, 103]⟩, .string (mkB e.id), .string (mkB e.key), .string (mkB (quoteF e.value))] 9)) fun en w' => en = .returned (.string (mkB (joinL [[116, 97, 103], e.id, e.key, quoteF e.value] [32]))) ∧ w' = u.alloc (.cells #[.string ⟨#[116, 97, 103]⟩, .string (mkB e.id), .string (mkB e.key), .string (mkB (quoteF e.value))] 9)) := Lib.hid (fun (u : World) => rwords_any (some ⟨u.heap.size, 0, none⟩) 4 4 [[116, 97, 103], e.id, e.key, quoteF e.value] (u.alloc (.cells #[.string ⟨#[116, 97, 103]⟩, .string (mkB e.id), .string (mkB e.key), .string (mkB (quoteF e.value))] 9)) rfl (by decide) ZS (Rd.of_row (heap_alloc_new u _) (List.prefix_refl _)))
 have X0 := Lib.hid hX
 generalize joinL [[116, 97, 103], e.id, e.key, quoteF e.value] [32] = J at *
 have zj : ¬ 9223372036854775807 < (mkB J).size + 1 := by omega
 have zj2 : (mkB J).size ≤ 100000000 := by omega
 clear hX E0 EL h hs ho1 r1 hv v1 v3 v4 hop ZS JL mj hp
 go_enter Tryz.func167, Tryz.ntmps167
 go_upto_region 1 with fail
 rw [← X0.out]
 clear X0
 go_upto_region 8 with fail
 (refine wp_region_noPanic ?_; refine wp_region_held_drew (S := (OldB X)) (by kernel_rfl) ?_ (fun hHeld => ?_); exact Below.drew (Below.refl _ _))
 generalize X.drew = ud at *
 (refine tkW 0 ?_; try simp only [gmS])
 (refine tkW 1 ?_; try simp only [gmS])
 (refine tkW 2 ?_; try simp only [gmS])
 (refine tkW 3 ?_; try simp only [gmS])
 (refine tkW 4 ?_; try simp only [gmS])
 (refine tkW 5 ?_; try simp only [gmS])
 refine rdR 6 (fun K hK => ?_)
 go_simp
 (with_reducible refine (QT.out _).mono ?_)
 rintro en u6 ⟨rfl, rfl⟩
 (refine hK.out _ _ hHeld (fun hHeld2 => ?_); clear hK K hHeld; have hHeld := hHeld2; clear hHeld2; try simp only [gmS])
 refine rdR 7 (fun K hK => ?_)
 go_simp
 (refine hK.out _ _ (OldB.alloc hHeld _) (fun hHeld2 => ?_); clear hK K hHeld; have hHeld := hHeld2; clear hHeld2; try simp only [gmS])
 refine rdR 8 (fun K hK => ?_)
 go_simp
 (with_reducible refine (WC.out _).mono ?_)
 rintro en uw ⟨rfl, rfl⟩
 (refine hK.out _ _ hHeld (fun hHeld2 => ?_); clear hK K hHeld; have hHeld := hHeld2; clear hHeld2; try simp only [gmS])
 (refine tkW 9 ?_; try simp only [gmS])
 (refine tkW 10 ?_; try simp only [gmS])
 (refine tkW 11 ?_; try simp only [gmS])
 have FF := Lib.hid (BX.out.trans (Below.mono hHeld BX.out.size))
 (refine wpAnyH_done (by kernel_rfl) ?_ _; refine NoPanic.normal ?_)
 go_wp2_with fail
 go_ret2
 refine ⟨?_, FF.out⟩
 rw [LF.out, ← mkB_app]
 rfl
theorem rline_2 (e : EV) (w : World) (h : EvIs w e) (hs : EdSz e.c) (hop : e.op = 2) (hp : 0 ≤ e.x ∧ e.x ≤ 1000000000 ∧ 0 ≤ e.y ∧ e.y ≤ 1000000000) :
  Calls Tryz.prog 167 #[evA e] w fun en w' => en = .returned (.tuple #[.string (mkB (lineF e.c).1), .bool (decide ((lineF e.c).2 = 0))]) ∧ Below w.heap.size w w' := by
 have e1 : (e.op == 1) = false := by rw [hop]; decide
 have e2 : (e.op == 2) = true := by rw [hop]; rfl
 have e3 : (e.op == 3) = false := by rw [hop]; decide
 have e4 : (e.op == 4) = false := by rw [hop]; decide
 have e5 : (e.op == 5) = false := by rw [hop]; decide
 have e6 : (e.op == 6) = false := by rw [hop]; decide
 have e7 : (e.op == 7) = false := by rw [hop]; decide
 obtain ⟨nx, hnx⟩ : ∃ n : Nat, e.x = (n : Int) := ⟨e.x.toNat, by omega⟩
 obtain ⟨ny, hny⟩ : ∃ n : Nat, e.y = (n : Int) := ⟨e.y.toNat, by omega⟩
 have DX := Lib.hid (fun u => r8dec_any nx (by omega) u)
 have DY := Lib.hid (fun u => r8dec_any ny (by omega) u)
 have LX := dec_len 10 nx (by omega) (by decide)
 have LY := dec_len 10 ny (by omega) (by decide)
 have LF : Hid (lineF e.c = (joinL [[109, 111, 118, 101], e.id, Dg.dec nx, Dg.dec ny] [32] ++ [10], 0)) := Lib.hid (by
  have ex : e.c.x.toNat = nx := by show e.x.toNat = nx; rw [hnx]; rfl
  have ey : e.c.y.toNat = ny := by show e.y.toNat = ny; rw [hny]; rfl
  unfold lineF lineW; rw [show e.c.op = 2 from hop, ex, ey]; rfl)
 have ZS : ∀ s ∈ ([[109, 111, 118, 101], e.id, Dg.dec nx, Dg.dec ny] : List Tx), s.length ≤ 1000000 := by
  intro s hm
  simp at hm
  rcases hm with rfl | rfl | rfl | rfl
  ·decide
  ·exact hs.id
  ·omega
  ·omega
 obtain ⟨⟨A1, c1, v1, r1⟩, ho1⟩ := id h
 obtain ⟨⟨A3, c3, v3, -⟩, ⟨A4, c4, v4, -⟩⟩ := id ho1
 have hv : evA e = .agg #[.int .i64 e.op, .string (mkB e.id), .string (mkB e.other), .string (mkB e.node), .int .i64 e.x, .int .i64 e.y, .string (mkB e.key), .string (mkB e.value), .slice A1 e.refs.length c1, .string (mkB e.o.c.id), .int .i64 e.o.c.kind, .int .i64 e.o.c.x, .int .i64 e.o.c.y, .slice A3 e.o.c.refs.length c3, .slice A4 e.o.c.tags.length c4] := by unfold evA evL; rw [v1, v3, v4]
 rw [hv]
 obtain ⟨X, hX⟩ : ∃ X, X = w.alloc (.cells #[.int .i64 e.op, .string (mkB e.id), .string (mkB e.other), .string (mkB e.node), .int .i64 e.x, .int .i64 e.y, .string (mkB e.key), .string (mkB e.value), .slice A1 e.refs.length c1, .string (mkB e.o.c.id), .int .i64 e.o.c.kind, .int .i64 e.o.c.x, .int .i64 e.o.c.y, .slice A3 e.o.c.refs.length c3, .slice A4 e.o.c.tags.length c4] 93) := ⟨_, rfl⟩
 have BX : Hid (Below w.heap.size w X) := Lib.hid (by rw [hX]; exact (Below.refl _ _).alloc (Nat.le_refl _) _)
 have E0 : X.heap[w.heap.size]? = some (.cells #[.int .i64 e.op, .string (mkB e.id), .string (mkB e.other), .string (mkB e.node), .int .i64 e.x, .int .i64 e.y, .string (mkB e.key), .string (mkB e.value), .slice A1 e.refs.length c1, .string (mkB e.o.c.id), .int .i64 e.o.c.kind, .int .i64 e.o.c.x, .int .i64 e.o.c.y, .slice A3 e.o.c.refs.length c3, .slice A4 e.o.c.tags.length c4] 93 (0, 0)) := by rw [hX]; exact heap_alloc_new w _
 have EL := lt_of_block E0
 have x0 := load_block (i := 0) E0 rfl
 have y1 : ∀ u, OldB X u → u.cell? ⟨w.heap.size, 1, none⟩ = some (.string (mkB e.id)) := fun u hu => load_block (i := 1) ((hu.block _ EL).trans E0) rfl
 have y4 : ∀ u, OldB X u → u.cell? ⟨w.heap.size, 4, none⟩ = some (.int .i64 (nx : Int)) := fun u hu => load_block (i := 4) ((hu.block _ EL).trans E0) (by rw [← hnx]; rfl)
 have y5 : ∀ u, OldB X u → u.cell? ⟨w.heap.size, 5, none⟩ = some (.int .i64 (ny : Int)) := fun u hu => load_block (i := 5) ((hu.block _ EL).trans E0) (by rw [← hny]; rfl)
 have JL := join_len [32] 1000000 [[109, 111, 118, 101], e.id, Dg.dec nx, Dg.dec ny] ZS
 simp only [List.length_cons, List.length_nil] at JL
 have mj := mkB_len (joinL [[109, 111, 118, 101], e.id, Dg.dec nx, Dg.dec ny] [32])
 have WC : Hid (∀ u : World, Calls Tryz.prog 186 #[.slice (some ⟨u.heap.size, 0, none⟩) 4 4] (u.alloc (.cells #[.string ⟨#[109, 111, 118, 101]⟩, .string (mkB e.id), .string (mkB (Dg.dec nx)), .string (mkB (Dg.dec ny))] 9)) fun en w' => en = .returned (.string (mkB (joinL [[109, 111, 118, 101], e.id, Dg.dec nx, Dg.dec ny] [32]))) ∧ w' = u.alloc (.cells #[.string ⟨#[109, 111, 118, 101]⟩, .string (mkB e.id), .string (mkB (Dg.dec nx)), .string (mkB (Dg.dec ny))] 9)) := Lib.hid (fun (u : World) => rwords_any (some ⟨u.heap.size, 0, none⟩) 4 4 [[109, 111, 118, 101], e.id, Dg.dec nx, Dg.dec ny] (u.alloc (.cells #[.string ⟨#[109, 111, 118, 101]⟩, .string (mkB e.id), .string (mkB (Dg.dec nx)), .string (mkB (Dg.dec ny))] 9)) rfl (by decide) ZS (Rd.of_row (heap_alloc_new u _) (List.prefix_refl _)))
 have X0 := Lib.hid hX
 generalize joinL [[109, 111, 118, 101], e.id, Dg.dec nx, Dg.dec ny] [32] = J at *
 have zj : ¬ 9223372036854775807 < (mkB J).size + 1 := by omega
 have zj2 : (mkB J).size ≤ 100000000 := by omega
 clear hX E0 EL h hs ho1 r1 hv v1 v3 v4 hop ZS JL mj hp hnx hny
 go_enter Tryz.func167, Tryz.ntmps167
 go_upto_region 1 with fail
 rw [← X0.out]
 clear X0
 go_upto_region 6 with fail
 (refine wp_region_noPanic ?_; refine wp_region_held_drew (S := (OldB X)) (by kernel_rfl) ?_ (fun hHeld => ?_); exact Below.drew (Below.refl _ _))
 generalize X.drew = ud at *
 (refine tkW 0 ?_; try simp only [gmS])
 (refine tkW 1 ?_; try simp only [gmS])
 (refine tkW 2 ?_; try simp only [gmS])
 (refine tkW 3 ?_; try simp only [gmS])
 (refine tkW 4 ?_; try simp only [gmS])
 (refine tkW 6 ?_; try simp only [gmS])
 (refine tkW 7 ?_; try simp only [gmS])
 (refine tkW 8 ?_; try simp only [gmS])
 refine rdR 5 (fun K hK => ?_)
 go_simp
 (with_reducible refine (DX.out _).mono ?_)
 rintro en u5 ⟨rfl, rfl⟩
 (refine hK.out _ _ hHeld (fun hHeld2 => ?_); clear hK K hHeld; have hHeld := hHeld2; clear hHeld2; try simp only [gmS])
 refine rdR 9 (fun K hK => ?_)
 go_simp
 (with_reducible refine (DY.out _).mono ?_)
 rintro en u9 ⟨rfl, rfl⟩
 (refine hK.out _ _ hHeld (fun hHeld2 => ?_); clear hK K hHeld; have hHeld := hHeld2; clear hHeld2; try simp only [gmS])
 refine rdR 10 (fun K hK => ?_)
 go_simp
 (refine hK.out _ _ (OldB.alloc hHeld _) (fun hHeld2 => ?_); clear hK K hHeld; have hHeld := hHeld2; clear hHeld2; try simp only [gmS])
 refine rdR 11 (fun K hK => ?_)
 go_simp
 (with_reducible refine (WC.out _).mono ?_)
 rintro en uw ⟨rfl, rfl⟩
 (refine hK.out _ _ hHeld (fun hHeld2 => ?_); clear hK K hHeld; have hHeld := hHeld2; clear hHeld2; try simp only [gmS])
 (refine tkW 12 ?_; try simp only [gmS])
 (refine tkW 13 ?_; try simp only [gmS])
 (refine tkW 14 ?_; try simp only [gmS])
 have FF := Lib.hid (BX.out.trans (Below.mono hHeld BX.out.size))
 (refine wpAnyH_done (by kernel_rfl) ?_ _; refine NoPanic.normal ?_)
 go_wp2_with fail
 go_ret2
 refine ⟨?_, FF.out⟩
 rw [LF.out, ← mkB_app]
 rfl
end Go.Proofs.YtniklmikdkjgiaaGreatDoor
namespace Go.Proofs.YtniklmikdkjgiaaGreatDoor
open Go.RowKit
theorem rv21_any (e : EV) (w : World) (h : EvIs w e) (hs : EdSz e.c) :
  Calls Tryz.prog 184 #[evA e] w fun en w' => en = .returned (.bool (validE e.c)) ∧ Below w.heap.size w w' := by
 by_cases hop : 1 ≤ e.op ∧ e.op ≤ 7
 ·cases hz : zeroE (rbareV e).c
  ·exact rv21_bad e w h hs hop hz
  obtain h1 | h1 | h1 | h1 | h1 | h1 | h1 : e.op = 1 ∨ e.op = 2 ∨ e.op = 3 ∨ e.op = 4 ∨ e.op = 5 ∨ e.op = 6 ∨ e.op = 7 := by omega
  ·exact rv21_1 e w h hs h1 hz
  ·exact rv21_2 e w h hs h1 hz
  ·exact rv21_3 e w h hs h1 hz
  ·exact rv21_4 e w h hs h1 hz
  ·exact rv21_5 e w h hs h1 hz
  ·exact rv21_6 e w h hs h1 hz
  ·exact rv21_7 e w h hs h1 hz
 ·exact rv21_off e w h hop
end Go.Proofs.YtniklmikdkjgiaaGreatDoor
namespace Go.Proofs.YtniklmikdkjgiaaGreatDoor
open Go.RowKit
theorem rline_4 (e : EV) (w : World) (h : EvIs w e) (hs : EdSz e.c) (hop : e.op = 4) (hp : e.refs.length ≤ 2000) :
  Calls Tryz.prog 167 #[evA e] w fun en w' => en = .returned (.tuple #[.string (mkB (lineF e.c).1), .bool (decide ((lineF e.c).2 = 0))]) ∧ Below w.heap.size w w' := by
 have e1 : (e.op == 1) = false := by rw [hop]; decide
 have e2 : (e.op == 2) = false := by rw [hop]; decide
 have e3 : (e.op == 3) = false := by rw [hop]; decide
 have e4 : (e.op == 4) = true := by rw [hop]; rfl
 have e5 : (e.op == 5) = false := by rw [hop]; decide
 have e6 : (e.op == 6) = false := by rw [hop]; decide
 have e7 : (e.op == 7) = false := by rw [hop]; decide
 have LF : Hid (lineF e.c = (joinL ([[114, 101, 102, 115], e.id] ++ e.refs) [32] ++ [10], 0)) := Lib.hid (by unfold lineF lineW; rw [show e.c.op = 4 from hop]; rfl)
 obtain ⟨⟨A1, c1, v1, r1⟩, ho1⟩ := id h
 obtain ⟨⟨A3, c3, v3, -⟩, ⟨A4, c4, v4, -⟩⟩ := id ho1
 obtain ⟨nr, hnr⟩ : ∃ n, n = e.refs.length := ⟨_, rfl⟩
 have hv : evA e = .agg #[.int .i64 e.op, .string (mkB e.id), .string (mkB e.other), .string (mkB e.node), .int .i64 e.x, .int .i64 e.y, .string (mkB e.key), .string (mkB e.value), .slice A1 nr c1, .string (mkB e.o.c.id), .int .i64 e.o.c.kind, .int .i64 e.o.c.x, .int .i64 e.o.c.y, .slice A3 e.o.c.refs.length c3, .slice A4 e.o.c.tags.length c4] := by unfold evA evL; rw [v1, v3, v4, ← hnr]
 rw [hv]
 obtain ⟨X, hX⟩ : ∃ X, X = w.alloc (.cells #[.int .i64 e.op, .string (mkB e.id), .string (mkB e.other), .string (mkB e.node), .int .i64 e.x, .int .i64 e.y, .string (mkB e.key), .string (mkB e.value), .slice A1 nr c1, .string (mkB e.o.c.id), .int .i64 e.o.c.kind, .int .i64 e.o.c.x, .int .i64 e.o.c.y, .slice A3 e.o.c.refs.length c3, .slice A4 e.o.c.tags.length c4] 93) := ⟨_, rfl⟩
 have BX : Below w.heap.size w X := by rw [hX]; exact (Below.refl _ _).alloc (Nat.le_refl _) _
 have E0 : X.heap[w.heap.size]? = some (.cells #[.int .i64 e.op, .string (mkB e.id), .string (mkB e.other), .string (mkB e.node), .int .i64 e.x, .int .i64 e.y, .string (mkB e.key), .string (mkB e.value), .slice A1 nr c1, .string (mkB e.o.c.id), .int .i64 e.o.c.kind, .int .i64 e.o.c.x, .int .i64 e.o.c.y, .slice A3 e.o.c.refs.length c3, .slice A4 e.o.c.tags.length c4] 93 (0, 0)) := by rw [hX]; exact heap_alloc_new w _
 have x0 := load_block (i := 0) E0 rfl
 have x1 := load_block (i := 1) E0 rfl
 have ZS : Hid (∀ s ∈ ([[114, 101, 102, 115], e.id] ++ e.refs : List Tx), s.length ≤ 1000000) := Lib.hid (by
  intro s hm
  rcases List.mem_append.1 hm with hm | hm
  ·simp at hm
   rcases hm with rfl | rfl
   ·decide
   ·exact hs.id
  ·exact hs.ref s hm)
 have JL := join_len [32] 1000000 ([[114, 101, 102, 115], e.id] ++ e.refs) ZS.out
 simp only [List.length_cons, List.length_nil, List.length_append] at JL
 have mj := mkB_len (joinL ([[114, 101, 102, 115], e.id] ++ e.refs) [32])
 obtain ⟨V, hV⟩ : ∃ V, V = X.alloc (.cells #[.string ⟨#[114, 101, 102, 115]⟩, .string (mkB e.id)] 9) := ⟨_, rfl⟩
 have OW : Hid (V.ownsRow X.heap.size 9 1 (.slice (some ⟨X.heap.size, 0, none⟩) 2 2) 2 (strsC [[114, 101, 102, 115], e.id])) := Lib.hid (by rw [hV]; exact own_lit (Nat.le_refl _) rfl (by decide))
 have BV : Below X.heap.size X V := by rw [hV]; exact (Below.refl _ _).alloc (Nat.le_refl _) _
 have x8 : V.cell? ⟨w.heap.size, 8, none⟩ = some (.slice A1 nr c1) := load_block (i := 8) ((BV.block _ (lt_of_block E0)).trans E0) rfl
 have RV : Hid (Rd V A1 (strsC e.refs)) := Lib.hid ((r1.below BX).below BV)
 have bz : X.heap.size ≤ V.heap.size := BV.size
 have lz : Hid ((strsC e.refs).length = nr * 1) := Lib.hid (by rw [hnr]; simp [strsC])
 obtain ⟨n2, hn2⟩ : ∃ n, 2 + nr = n := ⟨_, rfl⟩
 have nl : nr ≤ 2000 := by rw [hnr]; exact hp
 have HN : Hid (n2 = ([[114, 101, 102, 115], e.id] ++ e.refs : List Tx).length) := Lib.hid (by rw [← hn2, hnr]; simp; omega)
 have BH := Lib.hid (BX.trans (Below.mono BV BX.size))
 have BS := BX.size
 have X0 := Lib.hid hX
 have V0 := Lib.hid hV
 generalize hJ : joinL ([[114, 101, 102, 115], e.id] ++ e.refs) [32] = J at *
 have J0 := Lib.hid hJ
 have zj : (mkB J).size ≤ 10000000000 := by have : e.refs.length ≤ 2000 := hp; omega
 clear hX hV hJ E0 h hs ho1 r1 hv v1 v3 v4 hop JL mj BX BV hnr hp
 go_enter Tryz.func167, Tryz.ntmps167
 go_upto_region 1 with fail
 rw [← X0.out]
 clear X0
 go_wp2_with (first
  | (at_builtin; refine wpList_appSN rfl (.tmp 53) (.tmp 55) 35 rfl Tryz.underlying35 info_strG rfl (by decide) X.heap.size _ 2 (strsC [[114, 101, 102, 115], e.id]) A1 nr c1 n2 hn2 (strsC e.refs) (strs_one _) rfl rfl OW.out RV.out lz.out bz (by omega) (by omega) ?_; intro A2x c2x w2 ho2 hb2)
  | (with_reducible rw [← V0.out]))
 have ho3 : w2.ownsRow X.heap.size 9 1 (.slice A2x n2 c2x) n2 (strsC ([[114, 101, 102, 115], e.id] ++ e.refs)) := by rw [strsC_app]; exact ho2
 have WC := rwords_any A2x n2 c2x ([[114, 101, 102, 115], e.id] ++ e.refs) w2 HN.out (by omega) ZS.out (own_rdG ho3)
 rw [J0.out] at WC
 have BA := Lib.hid (BH.out.trans (hb2.mono BS))
 clear ho2 hb2 ho3 OW RV x8 x0 x1
 (with_reducible refine WC.mono ?_)
 rintro en u1 ⟨rfl, rfl⟩
 clear WC
 go_wp2_with fail
 go_ret2
 refine ⟨?_, BA.out⟩
 rw [LF.out, ← mkB_app]
 rfl
theorem rline_any (e : EV) (w : World) (h : EvIs w e) (hs : EdSz e.c) (hok : okE e.c = true) :
  Calls Tryz.prog 167 #[evA e] w fun en w' => en = .returned (.tuple #[.string (mkB (lineF e.c).1), .bool (decide ((lineF e.c).2 = 0))]) ∧ Below w.heap.size w w' := by
 by_cases h1 : e.op = 1
 ·exact rline_1 e w h hs h1
 by_cases h2 : e.op = 2
 ·obtain ⟨-, X, Y, hX, hY, xb, yb⟩ := okE_2 hok h2
  have hX : e.x = X := hX
  have hY : e.y = Y := hY
  exact rline_2 e w h hs h2 ⟨by omega, by omega, by omega, by omega⟩
 by_cases h3 : e.op = 3
 ·have := (okE_3 hok h3).2.2
  exact rline_3 e w h hs h3 (Nat.le_trans this (by decide))
 by_cases h4 : e.op = 4
 ·exact rline_4 e w h hs h4 (okE_4 hok h4).2.2.1
 by_cases h5 : e.op = 5
 ·exact rline_5 e w h hs h5
 by_cases h6 : e.op = 6
 ·exact rline_6 e w h hs h6
 by_cases h7 : e.op = 7
 ·exact rline_7 e w h hs h7
 exfalso
 unfold okE at hok
 rw [if_neg (show ¬ e.c.op = 1 from h1), if_neg (show ¬ e.c.op = 2 from h2), if_neg (show ¬ e.c.op = 3 from h3), if_neg (show ¬ e.c.op = 4 from h4), if_neg (show ¬ e.c.op = 5 from h5), if_neg (show ¬ e.c.op = 6 from h6), if_neg (show ¬ e.c.op = 7 from h7)] at hok
 cases hok
end Go.Proofs.YtniklmikdkjgiaaGreatDoor
namespace Go.Proofs.YtniklmikdkjgiaaGreatDoor
open Go.RowKit
theorem rv22_any (A : Option Addr) (n c : Nat) (l : List EV) (w : World) (hn : n = l.length) (h : Es w A l) :
  Calls Tryz.prog 166 #[.slice A n c] w fun e w' => e = .returned (.bool (validC (edsC l))) ∧ Below w.heap.size w w' := by
 have H := Lib.hid h
 have HN := Lib.hid hn
 have hl : n ≤ 100000 := by rw [hn]; exact h.len
 obtain ⟨R, hR⟩ : ∃ R, validC (edsC l) = R := ⟨_, rfl⟩
 have PM : Hid (R = (decide (0 < n) && decide (n ≤ 200) && (l.drop 0).all fun e => validE e.c)) := Lib.hid (by rw [← hR, hn]; unfold validC edsC; rw [List.length_map, List.all_map]; rfl)
 rw [hR]
 have HB : Hid (Below w.heap.size w w) := Lib.hid (Below.refl _ _)
 clear hn h hR
 go_enter Tryz.func166, Tryz.ntmps166
 by_cases h1 : n < 1
 ·have d1 : (n : Int) < 1 := by omega
  have RF : Hid (R = false) := Lib.hid (by rw [PM.out, decide_eq_false (by omega)]; rfl)
  clear PM h1
  go_wp2_with fail
  go_ret
  exact ⟨by rw [RF.out]; rfl, HB.out⟩
 have d1 : ¬ (n : Int) < 1 := by omega
 by_cases h2 : 200 < n
 ·have d2 : (200 : Int) < (n : Int) := by omega
  have RF : Hid (R = false) := Lib.hid (by rw [PM.out, decide_eq_false (p := n ≤ 200) (by omega), Bool.and_false]; rfl)
  clear PM h2
  go_wp2_with fail
  go_ret
  exact ⟨by rw [RF.out]; rfl, HB.out⟩
 have d2 : ¬ (200 : Int) < (n : Int) := by omega
 have HR0 : Hid (R = (l.drop 0).all fun e => validE e.c) := Lib.hid (by rw [PM.out, decide_eq_true (by omega : 0 < n), decide_eq_true (by omega : n ≤ 200)]; rfl)
 clear PM h1 h2
 go_wp2_with fail
 clear d1 d2
 go_loopw [3] (fun s3 wr => ∃ k : Nat, k ≤ n ∧ s3 = .int .i64 (k : Int) ∧ Hid (R = (l.drop k).all fun e => validE e.c) ∧ Hid (Below w.heap.size w wr)) (fun i _ => n - (intOf i).toNat)
 case atStart => exact ⟨0, Nat.zero_le _, rfl, HR0, HB⟩
 case round =>
  clear HR0 HB
  obtain ⟨k, hkn, rfl, HR, BL⟩ := hrel
  by_cases hlt : k < n
  ·have hkl : k < l.length := by rw [← HN.out]; exact hlt
   have d1 : (k : Int) < (n : Int) := by omega
   have d2 : (0 : Int) ≤ (k : Int) := by omega
   obtain ⟨b, off, rfl, hb, hc⟩ := evs_at (H.out.rd.below BL.out) hkl
   have HC : Hid (wr.rangeAt b (off + k * 15) (evL l[k])) := Lib.hid (fun j v hj => hc j v hj)
   have HI := H.out.is l[k] (List.getElem_mem hkl)
   have HS := H.out.sz l[k] (List.getElem_mem hkl)
   have RK : Hid (R = (validE l[k].c && (l.drop (k + 1)).all fun e => validE e.c)) := Lib.hid (by rw [HR.out, List.drop_eq_getElem_cons hkl, List.all_cons])
   have VC := Lib.hid (rv21_any l[k] wr (HI.below BL.out) HS)
   unfold evA at VC
   clear HR hc HI HS
   generalize l[k] = e at *
   generalize validE e.c = q at *
   have SZ : (Tryz.prog.info? 93).map (·.size) = some (evL e).length := by kernel_rfl
   generalize evL e = es at *
   go_wp2_with (refine wpList_load_mid rfl 93 (.tmp 20) rfl b (off + k * 15) rfl es _ HC.out Tryz.underlying93 rfl SZ ?_)
   (with_reducible refine VC.out.mono ?_)
   rintro en w' ⟨rfl, b1⟩
   have B1 := Lib.hid (BL.out.trans (b1.mono BL.out.size))
   clear VC b1 HC SZ
   cases q
   ·have RF : Hid (R = false) := Lib.hid (by rw [RK.out, Bool.false_and])
    clear RK
    go_wp2_with fail
    go_ret
    exact ⟨by rw [RF.out]; rfl, B1.out⟩
   ·have R2 : Hid (R = (l.drop (k + 1)).all fun e => validE e.c) := Lib.hid (by rw [RK.out, Bool.true_and])
    clear RK
    go_wp2_with fail
    exact ⟨⟨k + 1, by omega, by go_num, R2, B1⟩, by simp [intOf]; omega⟩
  ·have d1 : ¬ (k : Int) < (n : Int) := by omega
   have RT : Hid (R = true) := Lib.hid (by rw [HR.out, List.drop_eq_nil_of_le (by rw [← HN.out]; omega)]; rfl)
   clear HR
   go_wp2_with fail
   go_ret
   exact ⟨by rw [RT.out]; rfl, BL.out⟩
end Go.Proofs.YtniklmikdkjgiaaGreatDoor
namespace Go.Proofs.YtniklmikdkjgiaaGreatDoor
open Go.RowKit
theorem valid_okE {e : Ed} (h : validE e = true) : okE e = true := by
 unfold validE at h
 rw [Bool.and_eq_true] at h
 exact h.1
theorem rt22_any (A : Option Addr) (n c : Nat) (l : List EV) (w : World) (hn : n = l.length) (h : Es w A l) :
  Calls Tryz.prog 140 #[.slice A n c] w fun e w' => e = .returned (.tuple #[.string (mkB (changeTextF (edsC l)).1), .int .i64 ((changeTextF (edsC l)).2 : Int)]) ∧ Below w.heap.size w w' := by
 have H := Lib.hid h
 have HN := Lib.hid hn
 have hl : n ≤ 100000 := by rw [hn]; exact h.len
 have VC := Lib.hid (rv22_any A n c l w hn h)
 obtain ⟨R, hR⟩ : ∃ R, changeTextF (edsC l) = R := ⟨_, rfl⟩
 have PM : Hid (R = if validC (edsC l) then textGo [] (edsC l) else ([], 1)) := Lib.hid (by rw [← hR]; rfl)
 have VO : Hid (validC (edsC l) = true → ∀ e ∈ l, okE e.c = true) := Lib.hid (fun hv e he => by
  unfold validC at hv
  simp only [Bool.and_eq_true, List.all_eq_true] at hv
  exact valid_okE (hv.2 e.c (List.mem_map_of_mem he)))
 rw [hR]
 clear hn h hR
 go_enter Tryz.func140, Tryz.ntmps140
 go_wp2_with fail
 (with_reducible refine VC.out.mono ?_)
 rintro en w1 ⟨rfl, b1⟩
 have B1 := Lib.hid b1
 clear VC b1
 cases hv : validC (edsC l)
 ·have PF : Hid (R = ([], 1)) := Lib.hid (by rw [PM.out, hv]; rfl)
  clear PM hv VO
  go_wp2_with fail
  go_ret2
  exact ⟨by rw [PF.out]; rfl, B1.out⟩
 have OK := Lib.hid (VO.out hv)
 have HR0 : Hid (R = textGo [] ((edsC l).drop 0)) := Lib.hid (by rw [PM.out, hv]; rfl)
 clear PM hv VO
 go_wp2_with fail
 go_loopw [4, 5, 6, 7] (fun s4 s5 _ _ wr => ∃ (k : Nat) (acc : Tx), k ≤ n ∧ s5 = .int .i64 (k : Int) ∧ s4 = .string (mkB acc) ∧ acc.length ≤ 20000 ∧ Hid (R = textGo acc ((edsC l).drop k)) ∧ Hid (Below w.heap.size w wr)) (fun _ i _ _ _ => n - (intOf i).toNat)
 case atStart => exact ⟨0, [], Nat.zero_le _, rfl, rfl, by decide, HR0, B1⟩
 case round =>
  clear HR0 B1
  obtain ⟨k, acc, hkn, rfl, rfl, ha, HR, BL⟩ := hrel
  by_cases hlt : k < n
  ·have hkl : k < l.length := by rw [← HN.out]; exact hlt
   have d1 : (k : Int) < (n : Int) := by omega
   have d2 : (0 : Int) ≤ (k : Int) := by omega
   obtain ⟨b, off, rfl, hb, hc⟩ := evs_at (H.out.rd.below BL.out) hkl
   have HC : Hid (wr.rangeAt b (off + k * 15) (evL l[k])) := Lib.hid (fun j v hj => hc j v hj)
   have HI := H.out.is l[k] (List.getElem_mem hkl)
   have HS := H.out.sz l[k] (List.getElem_mem hkl)
   have HO := OK.out l[k] (List.getElem_mem hkl)
   have RK : Hid (R = textGo acc (l[k].c :: (edsC l).drop (k + 1))) := Lib.hid (by rw [HR.out, List.drop_eq_getElem_cons (by unfold edsC; rw [List.length_map]; exact hkl)]; unfold edsC; rw [List.getElem_map])
   have LC := Lib.hid (rline_any l[k] wr (HI.below BL.out) HS HO)
   have LL := line_len HO
   unfold evA at LC
   clear HR hc HI HS HO
   generalize l[k] = e at *
   have RS : Hid (R = if (lineF e.c).2 = 0 then (if 20000 < (acc ++ (lineF e.c).1).length then ([], 2) else textGo (acc ++ (lineF e.c).1) ((edsC l).drop (k + 1))) else ([], 2)) := Lib.hid RK.out
   generalize (lineF e.c).1 = x at *
   have SZ : (Tryz.prog.info? 93).map (·.size) = some (evL e).length := by kernel_rfl
   generalize evL e = es at *
   have za := mkB_len acc
   have zx := mkB_len x
   clear RK
   go_wp2_with (refine wpList_load_mid rfl 93 (.tmp 20) rfl b (off + k * 15) rfl es _ HC.out Tryz.underlying93 rfl SZ ?_)
   (with_reducible refine LC.out.mono ?_)
   rintro en w' ⟨rfl, b1⟩
   have B1 := Lib.hid (BL.out.trans (b1.mono BL.out.size))
   clear LC b1 HC SZ
   by_cases hq : (lineF e.c).2 = 0
   ·have RS := Lib.hid (RS.out.trans (if_pos hq))
    have f0 : decide ((lineF e.c).2 = 0) = true := decide_eq_true hq
    simp only [f0]
    clear hq f0
    have zj : ¬ 9223372036854775807 < (mkB acc).size + (mkB x).size := by omega
    by_cases h2 : 20000 < acc.length + x.length
    ·have d3 : (20000 : Int) < (acc.length : Int) + (x.length : Int) := by omega
     have PF : Hid (R = ([], 2)) := Lib.hid (by rw [RS.out, if_pos (by rw [List.length_append]; exact h2)])
     clear RS h2
     go_wp2_with fail
     go_ret2
     exact ⟨by rw [PF.out]; rfl, B1.out⟩
    ·have d3 : ¬ (20000 : Int) < (acc.length : Int) + (x.length : Int) := by omega
     have PF : Hid (R = textGo (acc ++ x) ((edsC l).drop (k + 1))) := Lib.hid (by rw [RS.out, if_neg (by rw [List.length_append]; exact h2)])
     clear RS
     go_wp2_with fail
     exact ⟨⟨k + 1, acc ++ x, by omega, by go_num, by rw [← mkB_app], by rw [List.length_append]; omega, PF, B1⟩, by simp [intOf]; omega⟩
   ·have PF := Lib.hid (RS.out.trans (if_neg hq))
    have f0 : decide ((lineF e.c).2 = 0) = false := decide_eq_false hq
    simp only [f0]
    have zj : ¬ 9223372036854775807 < (mkB acc).size + (mkB x).size := by omega
    clear hq f0 RS
    go_wp2_with fail
    go_ret2
    exact ⟨by rw [PF.out]; rfl, B1.out⟩
  ·have d1 : ¬ (k : Int) < (n : Int) := by omega
   have PF : Hid (R = (acc, 0)) := Lib.hid (by rw [HR.out, List.drop_eq_nil_of_le (by unfold edsC; rw [List.length_map, ← HN.out]; omega)]; rfl)
   clear HR
   go_wp2_with fail
   go_ret2
   exact ⟨by rw [PF.out]; rfl, BL.out⟩
end Go.Proofs.YtniklmikdkjgiaaGreatDoor
