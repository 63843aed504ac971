import Derived.Test.YtniklmikdkjgiaaGreatDoorCTB
import Derived.Test.YtniklmikdkjgiaaGreatDoorCTC
import Derived.Test.YtniklmikdkjgiaaGreatDoorCXJ
import Derived.Test.YtniklmikdkjgiaaGreatDoorCXK
import Derived.Test.YtniklmikdkjgiaaGreatDoorCXQ
import Derived.BigGuard
import Derived.BigCall
set_option linter.all false
set_option maxHeartbeats 16000000
set_option maxRecDepth 100000
namespace Go.Proofs.YtniklmikdkjgiaaGreatDoor
open Go.RowKit
theorem rv21_off (e : EV) (w : World) (h : EvIs w e) (hop : ¬ (1 ≤ e.op ∧ e.op ≤ 7)) :
  Calls Tryz.prog 184 #[evA e] w fun en w' => en = .returned (.bool (validE e.c)) ∧ Below w.heap.size w w' := by
 have RF : Hid (validE e.c = false) := Lib.hid (val_off hop)
 obtain ⟨⟨A1, c1, v1, r1⟩, ho1⟩ := id h
 obtain ⟨⟨A3, c3, v3, -⟩, ⟨A4, c4, v4, -⟩⟩ := id ho1
 obtain ⟨nr, hnr⟩ : ∃ n, n = e.refs.length := ⟨_, rfl⟩
 have NR := Lib.hid hnr
 have hv : evA e = .agg #[.int .i64 e.op, .string (mkB e.id), .string (mkB e.other), .string (mkB e.node), .int .i64 e.x, .int .i64 e.y, .string (mkB e.key), .string (mkB e.value), .slice A1 nr c1, .string (mkB e.o.c.id), .int .i64 e.o.c.kind, .int .i64 e.o.c.x, .int .i64 e.o.c.y, .slice A3 e.o.c.refs.length c3, .slice A4 e.o.c.tags.length c4] := by unfold evA evL; rw [v1, v3, v4, ← hnr]
 rw [hv]
 obtain ⟨X, hX⟩ : ∃ X, X = w.alloc (.cells #[.int .i64 e.op, .string (mkB e.id), .string (mkB e.other), .string (mkB e.node), .int .i64 e.x, .int .i64 e.y, .string (mkB e.key), .string (mkB e.value), .slice A1 nr c1, .string (mkB e.o.c.id), .int .i64 e.o.c.kind, .int .i64 e.o.c.x, .int .i64 e.o.c.y, .slice A3 e.o.c.refs.length c3, .slice A4 e.o.c.tags.length c4] 93) := ⟨_, rfl⟩
 have BX : Below w.heap.size w X := by rw [hX]; exact (Below.refl _ _).alloc (Nat.le_refl _) _
 have E0 : X.heap[w.heap.size]? = some (.cells #[.int .i64 e.op, .string (mkB e.id), .string (mkB e.other), .string (mkB e.node), .int .i64 e.x, .int .i64 e.y, .string (mkB e.key), .string (mkB e.value), .slice A1 nr c1, .string (mkB e.o.c.id), .int .i64 e.o.c.kind, .int .i64 e.o.c.x, .int .i64 e.o.c.y, .slice A3 e.o.c.refs.length c3, .slice A4 e.o.c.tags.length c4] 93 (0, 0)) := by rw [hX]; exact heap_alloc_new w _
 have EL := lt_of_block E0
 have x0 := load_block (i := 0) E0 rfl
 have BH := Lib.hid BX
 have X0 := Lib.hid hX
 clear hX E0 EL BX h ho1 r1 v1 v3 v4 hv hnr
 rw [RF.out]
 by_cases h1 : e.op < 1
 ·clear hop
  go_enter Tryz.func184, Tryz.ntmps184
  go_upto_region 1 with fail
  rw [← X0.out]
  clear X0
  go_wp2_with fail
  go_ret
  exact ⟨rfl, BH.out⟩
 ·have h7 : 7 < e.op := by omega
  clear hop
  go_enter Tryz.func184, Tryz.ntmps184
  go_upto_region 1 with fail
  rw [← X0.out]
  clear X0
  go_wp2_with fail
  go_ret
  exact ⟨rfl, BH.out⟩
theorem rv21_bad (e : EV) (w : World) (h : EvIs w e) (hs : EdSz e.c) (hop : 1 ≤ e.op ∧ e.op ≤ 7) (hz : zeroE (rbareV e).c = false) :
  Calls Tryz.prog 184 #[evA e] w fun en w' => en = .returned (.bool (validE e.c)) ∧ Below w.heap.size w w' := by
 have RF : Hid (validE e.c = false) := Lib.hid (val_bad hop (by rw [← rbare_c]; exact hz))
 have RB0 := rbare_any e
 have HB := rbare_is h
 have SB := rbare_sz hs
 generalize rbareV e = b at *
 obtain ⟨⟨A1, c1, v1, r1⟩, ho1⟩ := id h
 obtain ⟨⟨A3, c3, v3, -⟩, ⟨A4, c4, v4, -⟩⟩ := id ho1
 obtain ⟨nr, hnr⟩ : ∃ n, n = e.refs.length := ⟨_, rfl⟩
 have NR := Lib.hid hnr
 have hv : evA e = .agg #[.int .i64 e.op, .string (mkB e.id), .string (mkB e.other), .string (mkB e.node), .int .i64 e.x, .int .i64 e.y, .string (mkB e.key), .string (mkB e.value), .slice A1 nr c1, .string (mkB e.o.c.id), .int .i64 e.o.c.kind, .int .i64 e.o.c.x, .int .i64 e.o.c.y, .slice A3 e.o.c.refs.length c3, .slice A4 e.o.c.tags.length c4] := by unfold evA evL; rw [v1, v3, v4, ← hnr]
 obtain ⟨⟨B1, d1, u1, -⟩, ho2⟩ := id HB
 obtain ⟨⟨B3, d3, u3, -⟩, ⟨B4, d4, u4, -⟩⟩ := id ho2
 obtain ⟨mr, hmr⟩ : ∃ n, n = b.refs.length := ⟨_, rfl⟩
 have hbv : evA b = .agg #[.int .i64 b.op, .string (mkB b.id), .string (mkB b.other), .string (mkB b.node), .int .i64 b.x, .int .i64 b.y, .string (mkB b.key), .string (mkB b.value), .slice B1 mr d1, .string (mkB b.o.c.id), .int .i64 b.o.c.kind, .int .i64 b.o.c.x, .int .i64 b.o.c.y, .slice B3 b.o.c.refs.length d3, .slice B4 b.o.c.tags.length d4] := by unfold evA evL; rw [u1, u3, u4, ← hmr]
 have hbo : roA b.o = .agg #[.string (mkB b.o.c.id), .int .i64 b.o.c.kind, .int .i64 b.o.c.x, .int .i64 b.o.c.y, .slice B3 b.o.c.refs.length d3, .slice B4 b.o.c.tags.length d4] := by unfold roA; rw [u3, u4]
 rw [hv]
 obtain ⟨X, hX⟩ : ∃ X, X = w.alloc (.cells #[.int .i64 e.op, .string (mkB e.id), .string (mkB e.other), .string (mkB e.node), .int .i64 e.x, .int .i64 e.y, .string (mkB e.key), .string (mkB e.value), .slice A1 nr c1, .string (mkB e.o.c.id), .int .i64 e.o.c.kind, .int .i64 e.o.c.x, .int .i64 e.o.c.y, .slice A3 e.o.c.refs.length c3, .slice A4 e.o.c.tags.length c4] 93) := ⟨_, rfl⟩
 have BX : Below w.heap.size w X := by rw [hX]; exact (Below.refl _ _).alloc (Nat.le_refl _) _
 have E0 : X.heap[w.heap.size]? = some (.cells #[.int .i64 e.op, .string (mkB e.id), .string (mkB e.other), .string (mkB e.node), .int .i64 e.x, .int .i64 e.y, .string (mkB e.key), .string (mkB e.value), .slice A1 nr c1, .string (mkB e.o.c.id), .int .i64 e.o.c.kind, .int .i64 e.o.c.x, .int .i64 e.o.c.y, .slice A3 e.o.c.refs.length c3, .slice A4 e.o.c.tags.length c4] 93 (0, 0)) := by rw [hX]; exact heap_alloc_new w _
 have EL := lt_of_block E0
 have x0 := load_block (i := 0) E0 rfl
 have RX : Hid (X.rangeAt w.heap.size 0 [.int .i64 e.op, .string (mkB e.id), .string (mkB e.other), .string (mkB e.node), .int .i64 e.x, .int .i64 e.y, .string (mkB e.key), .string (mkB e.value), .slice A1 nr c1, .string (mkB e.o.c.id), .int .i64 e.o.c.kind, .int .i64 e.o.c.x, .int .i64 e.o.c.y, .slice A3 e.o.c.refs.length c3, .slice A4 e.o.c.tags.length c4]) := Lib.hid (range_of_row E0)
 have RB1 := RB0 X (h.below BX)
 rw [hv, hbv] at RB1
 have RB := Lib.hid RB1
 have HBX := Lib.hid (HB.below BX)
 have BH := Lib.hid BX
 have X0 := Lib.hid hX
 have RO : Hid (∀ u : World, Below X.heap.size X u → Calls Tryz.prog 144 #[.agg #[.string (mkB b.o.c.id), .int .i64 b.o.c.kind, .int .i64 b.o.c.x, .int .i64 b.o.c.y, .slice B3 b.o.c.refs.length d3, .slice B4 b.o.c.tags.length d4], .agg #[.string ⟨#[]⟩, .int .i64 0, .int .i64 0, .int .i64 0, .slice none 0 0, .slice none 0 0]] u fun en w' => en = .returned (.bool (At.sameO b.o.c zRO.c)) ∧ Below u.heap.size u w') := Lib.hid (fun u hu => by
  have := rsame_any b.o zRO u ((HB.ob.below BX).below hu) (zIs u) SB.ob zSz
  rw [hbo, zRO_val] at this
  exact this)
 have te : (ByteArray.mk #[]).toList = [] := mkB_tl []
 have t1 := mkB_tl b.id
 have t2 := mkB_tl b.other
 have t3 := mkB_tl b.node
 have t6 := mkB_tl b.key
 have t7 := mkB_tl b.value
 have p1 : ¬ e.op < 1 := by omega
 have p7 : ¬ 7 < e.op := by omega
 have HZ : Hid (zeroE b.c = (decide (b.id = []) && decide (b.other = []) && decide (b.node = []) && (decide (b.x = 0) && decide (b.y = 0)) && decide (b.key = []) && decide (b.value = []) && decide (b.refs = []) && At.sameO b.o.c zRO.c)) := Lib.hid rfl
 have HF := Lib.hid hz
 have HM : Hid (mr = 0 → b.refs = []) := Lib.hid (fun h0 => List.eq_nil_of_length_eq_zero (by rw [← hmr]; exact h0))
 clear hX E0 EL BX h hs ho1 ho2 HB SB r1 v1 v3 v4 u1 u3 u4 hv hnr hbv hbo RB0 RB1 hop hz hmr x0
 rw [RF.out]
 go_enter Tryz.func184, Tryz.ntmps184
 go_upto_region 1 with fail
 rw [← X0.out]
 clear X0
 have x0 : X.cell? ⟨w.heap.size, 0, none⟩ = some (.int .i64 e.op) := by have := RX.out 0 _ rfl; simpa using this
 go_upto_region 4 with (first
  | (refine wpList_load_mid rfl 93 (.tmp 1) rfl w.heap.size 0 rfl [.int .i64 e.op, .string (mkB e.id), .string (mkB e.other), .string (mkB e.node), .int .i64 e.x, .int .i64 e.y, .string (mkB e.key), .string (mkB e.value), .slice A1 nr c1, .string (mkB e.o.c.id), .int .i64 e.o.c.kind, .int .i64 e.o.c.x, .int .i64 e.o.c.y, .slice A3 e.o.c.refs.length c3, .slice A4 e.o.c.tags.length c4] _ RX.out Tryz.underlying93 rfl (by kernel_rfl) ?_)
  | ((with_reducible refine RB.out.mono ?_); rintro en u1 ⟨rfl, b1⟩))
 obtain ⟨g, hg⟩ : ∃ g, u1.heap.size = g := ⟨_, rfl⟩
 obtain ⟨U, hU⟩ : ∃ U, U = u1.alloc (.cells #[.int .i64 b.op, .string (mkB b.id), .string (mkB b.other), .string (mkB b.node), .int .i64 b.x, .int .i64 b.y, .string (mkB b.key), .string (mkB b.value), .slice B1 mr d1, .string (mkB b.o.c.id), .int .i64 b.o.c.kind, .int .i64 b.o.c.x, .int .i64 b.o.c.y, .slice B3 b.o.c.refs.length d3, .slice B4 b.o.c.tags.length d4] 93) := ⟨_, rfl⟩
 have EU : U.heap[g]? = some (.cells #[.int .i64 b.op, .string (mkB b.id), .string (mkB b.other), .string (mkB b.node), .int .i64 b.x, .int .i64 b.y, .string (mkB b.key), .string (mkB b.value), .slice B1 mr d1, .string (mkB b.o.c.id), .int .i64 b.o.c.kind, .int .i64 b.o.c.x, .int .i64 b.o.c.y, .slice B3 b.o.c.refs.length d3, .slice B4 b.o.c.tags.length d4] 93 (0, 0)) := by rw [hU, ← hg]; exact heap_alloc_new u1 _
 have BU : Below X.heap.size X U := by rw [hU]; exact b1.alloc b1.size _
 have FU := Lib.hid (BH.out.trans (Below.mono BU BH.out.size))
 have SO := Lib.hid (RO.out U BU)
 rw [← hU, hg]
 have z1 := load_block (i := 1) EU rfl
 have z2 := load_block (i := 2) EU rfl
 have z3 := load_block (i := 3) EU rfl
 have z4 := load_block (i := 4) EU rfl
 have z5 := load_block (i := 5) EU rfl
 have z6 := load_block (i := 6) EU rfl
 have z7 := load_block (i := 7) EU rfl
 have z8 := load_block (i := 8) EU rfl
 have z9 := load_block (i := 9) EU rfl
 have z10 := load_block (i := 10) EU rfl
 have z11 := load_block (i := 11) EU rfl
 have z12 := load_block (i := 12) EU rfl
 have z13 := load_block (i := 13) EU rfl
 have z14 := load_block (i := 14) EU rfl
 clear hU hg EU BU b1 RB RX RO x0 BH
 by_cases g0 : b.id = []
 rotate_left
 ·have e0 : (b.id == []) = false := by simpa using g0
  have f0 : (b.id != []) = true := by simpa using g0
  clear g0 HZ
  go_wp2_with fail
  go_ret
  exact ⟨rfl, FU.out⟩
 have e0 : (b.id == []) = true := by rw [g0]; rfl
 have f0 : (b.id != []) = false := by rw [g0]; rfl
 have G0 := Lib.hid g0
 clear g0
 by_cases g1 : b.other = []
 rotate_left
 ·have e1 : (b.other == []) = false := by simpa using g1
  have f1 : (b.other != []) = true := by simpa using g1
  clear g1 HZ
  go_wp2_with fail
  go_ret
  exact ⟨rfl, FU.out⟩
 have e1 : (b.other == []) = true := by rw [g1]; rfl
 have f1 : (b.other != []) = false := by rw [g1]; rfl
 have G1 := Lib.hid g1
 clear g1
 by_cases g2 : b.node = []
 rotate_left
 ·have e2 : (b.node == []) = false := by simpa using g2
  have f2 : (b.node != []) = true := by simpa using g2
  clear g2 HZ
  go_wp2_with fail
  go_ret
  exact ⟨rfl, FU.out⟩
 have e2 : (b.node == []) = true := by rw [g2]; rfl
 have f2 : (b.node != []) = false := by rw [g2]; rfl
 have G2 := Lib.hid g2
 clear g2
 by_cases g3 : b.x = 0
 rotate_left
 ·have e3 : (b.x == 0) = false := by simpa using g3
  have f3 : (b.x != 0) = true := by simpa using g3
  clear g3 HZ
  go_wp2_with fail
  go_ret
  exact ⟨rfl, FU.out⟩
 have e3 : (b.x == 0) = true := by rw [g3]; rfl
 have f3 : (b.x != 0) = false := by rw [g3]; rfl
 have G3 := Lib.hid g3
 clear g3
 by_cases g4 : b.y = 0
 rotate_left
 ·have e4 : (b.y == 0) = false := by simpa using g4
  have f4 : (b.y != 0) = true := by simpa using g4
  clear g4 HZ
  go_wp2_with fail
  go_ret
  exact ⟨rfl, FU.out⟩
 have e4 : (b.y == 0) = true := by rw [g4]; rfl
 have f4 : (b.y != 0) = false := by rw [g4]; rfl
 have G4 := Lib.hid g4
 clear g4
 by_cases g5 : b.key = []
 rotate_left
 ·have e5 : (b.key == []) = false := by simpa using g5
  have f5 : (b.key != []) = true := by simpa using g5
  clear g5 HZ
  go_wp2_with fail
  go_ret
  exact ⟨rfl, FU.out⟩
 have e5 : (b.key == []) = true := by rw [g5]; rfl
 have f5 : (b.key != []) = false := by rw [g5]; rfl
 have G5 := Lib.hid g5
 clear g5
 by_cases g6 : b.value = []
 rotate_left
 ·have e6 : (b.value == []) = false := by simpa using g6
  have f6 : (b.value != []) = true := by simpa using g6
  clear g6 HZ
  go_wp2_with fail
  go_ret
  exact ⟨rfl, FU.out⟩
 have e6 : (b.value == []) = true := by rw [g6]; rfl
 have f6 : (b.value != []) = false := by rw [g6]; rfl
 have G6 := Lib.hid g6
 clear g6
 by_cases g7 : mr = 0
 rotate_left
 ·have e7 : (0 : Int) < (mr : Int) := by omega
  clear g7 HZ
  go_wp2_with fail
  go_ret
  exact ⟨rfl, FU.out⟩
 have e7 : ¬ (0 : Int) < (mr : Int) := by omega
 have hso : At.sameO b.o.c zRO.c = false := by
  have := HZ.out
  rw [HF.out, decide_eq_true G0.out, decide_eq_true G1.out, decide_eq_true G2.out, decide_eq_true G3.out, decide_eq_true G4.out, decide_eq_true G5.out, decide_eq_true G6.out, decide_eq_true (HM.out g7)] at this
  simpa using this.symm
 clear g7 HZ
 rw [hso] at SO
 clear hso
 go_wp2_with fail
 (with_reducible refine SO.out.mono ?_)
 rintro en u2 ⟨rfl, b2⟩
 have F2 := Lib.hid (FU.out.trans (b2.mono FU.out.size))
 clear b2 SO
 go_wp2_with fail
 go_ret
 exact ⟨rfl, F2.out⟩
theorem rv21_1 (e : EV) (w : World) (h : EvIs w e) (hs : EdSz e.c) (hop : e.op = 1) (hz : zeroE (rbareV e).c = true) :
  Calls Tryz.prog 184 #[evA e] w fun en w' => en = .returned (.bool (validE e.c)) ∧ Below w.heap.size w w' := by
 have PM := Lib.hid (val_1 (e := e.c) hop (by rw [← rbare_c]; exact hz))
 obtain ⟨Ab, cb, Ac, cc, Ad, cd, hbL, hbO, hbS⟩ := zero_val (rbare_is h) hz
 have hbv : evA (rbareV e) = .agg #[.int .i64 e.op, .string ⟨#[]⟩, .string ⟨#[]⟩, .string ⟨#[]⟩, .int .i64 0, .int .i64 0, .string ⟨#[]⟩, .string ⟨#[]⟩, .slice Ab 0 cb, .string ⟨#[]⟩, .int .i64 0, .int .i64 0, .int .i64 0, .slice Ac 0 cc, .slice Ad 0 cd] := by unfold evA; rw [hbL]; rfl
 have HRO := (rbare_is h).ob
 have SRO := (rbare_sz hs).ob
 have RB0 := fun u (hu : Below w.heap.size w u) => rbare_any e u (h.below hu)
 obtain ⟨⟨A1, c1, v1, r1⟩, ho1⟩ := id h
 obtain ⟨⟨A3, c3, v3, -⟩, ⟨A4, c4, v4, -⟩⟩ := id ho1
 obtain ⟨nr, hnr⟩ : ∃ n, n = e.refs.length := ⟨_, rfl⟩
 have NR := Lib.hid hnr
 have hv : evA e = .agg #[.int .i64 e.op, .string (mkB e.id), .string (mkB e.other), .string (mkB e.node), .int .i64 e.x, .int .i64 e.y, .string (mkB e.key), .string (mkB e.value), .slice A1 nr c1, .string (mkB e.o.c.id), .int .i64 e.o.c.kind, .int .i64 e.o.c.x, .int .i64 e.o.c.y, .slice A3 e.o.c.refs.length c3, .slice A4 e.o.c.tags.length c4] := by unfold evA evL; rw [v1, v3, v4, ← hnr]
 rw [hv] at RB0 ⊢
 rw [hbv] at RB0
 obtain ⟨X, hX⟩ : ∃ X, X = w.alloc (.cells #[.int .i64 e.op, .string (mkB e.id), .string (mkB e.other), .string (mkB e.node), .int .i64 e.x, .int .i64 e.y, .string (mkB e.key), .string (mkB e.value), .slice A1 nr c1, .string (mkB e.o.c.id), .int .i64 e.o.c.kind, .int .i64 e.o.c.x, .int .i64 e.o.c.y, .slice A3 e.o.c.refs.length c3, .slice A4 e.o.c.tags.length c4] 93) := ⟨_, rfl⟩
 have BX : Below w.heap.size w X := by rw [hX]; exact (Below.refl _ _).alloc (Nat.le_refl _) _
 have E0 : X.heap[w.heap.size]? = some (.cells #[.int .i64 e.op, .string (mkB e.id), .string (mkB e.other), .string (mkB e.node), .int .i64 e.x, .int .i64 e.y, .string (mkB e.key), .string (mkB e.value), .slice A1 nr c1, .string (mkB e.o.c.id), .int .i64 e.o.c.kind, .int .i64 e.o.c.x, .int .i64 e.o.c.y, .slice A3 e.o.c.refs.length c3, .slice A4 e.o.c.tags.length c4] 93 (0, 0)) := by rw [hX]; exact heap_alloc_new w _
 have EL := lt_of_block E0
 have x0 := load_block (i := 0) E0 rfl
 have RX : Hid (X.rangeAt w.heap.size 0 [.int .i64 e.op, .string (mkB e.id), .string (mkB e.other), .string (mkB e.node), .int .i64 e.x, .int .i64 e.y, .string (mkB e.key), .string (mkB e.value), .slice A1 nr c1, .string (mkB e.o.c.id), .int .i64 e.o.c.kind, .int .i64 e.o.c.x, .int .i64 e.o.c.y, .slice A3 e.o.c.refs.length c3, .slice A4 e.o.c.tags.length c4]) := Lib.hid (range_of_row E0)
 have RB := Lib.hid (RB0 X BX)
 have BH := Lib.hid BX
 have X0 := Lib.hid hX
 have RO : Hid (∀ u : World, Below X.heap.size X u → Calls Tryz.prog 144 #[.agg #[.string ⟨#[]⟩, .int .i64 0, .int .i64 0, .int .i64 0, .slice Ac 0 cc, .slice Ad 0 cd], .agg #[.string ⟨#[]⟩, .int .i64 0, .int .i64 0, .int .i64 0, .slice none 0 0, .slice none 0 0]] u fun en w' => en = .returned (.bool true) ∧ Below u.heap.size u w') := Lib.hid (fun u hu => by
  have := rsame_any (rbareV e).o zRO u ((HRO.below BX).below hu) (zIs u) SRO zSz
  rw [hbO, zRO_val, hbS] at this
  exact this)
 have p1 : ¬ e.op < 1 := by omega
 have p7 : ¬ 7 < e.op := by omega
 have pz : ¬ (0 : Int) < ((0 : Nat) : Int) := by decide
 have e1 : (e.op == 1) = true := by rw [hop]; rfl
 have f1 : (e.op != 1) = false := by rw [hop]; rfl
 have e2 : (e.op == 2) = false := by rw [hop]; rfl
 have f2 : (e.op != 2) = true := by rw [hop]; rfl
 have e3 : (e.op == 3) = false := by rw [hop]; rfl
 have f3 : (e.op != 3) = true := by rw [hop]; rfl
 have e4 : (e.op == 4) = false := by rw [hop]; rfl
 have f4 : (e.op != 4) = true := by rw [hop]; rfl
 have e5 : (e.op == 5) = false := by rw [hop]; rfl
 have f5 : (e.op != 5) = true := by rw [hop]; rfl
 have e6 : (e.op == 6) = false := by rw [hop]; rfl
 have f6 : (e.op != 6) = true := by rw [hop]; rfl
 have e7 : (e.op == 7) = false := by rw [hop]; rfl
 have f7 : (e.op != 7) = true := by rw [hop]; rfl
 have XC : Hid (∀ u, Below X.heap.size X u → u.heap[w.heap.size]? = some (.cells #[.int .i64 e.op, .string (mkB e.id), .string (mkB e.other), .string (mkB e.node), .int .i64 e.x, .int .i64 e.y, .string (mkB e.key), .string (mkB e.value), .slice A1 nr c1, .string (mkB e.o.c.id), .int .i64 e.o.c.kind, .int .i64 e.o.c.x, .int .i64 e.o.c.y, .slice A3 e.o.c.refs.length c3, .slice A4 e.o.c.tags.length c4] 93 (0, 0))) := Lib.hid (fun u hu => (hu.block _ EL).trans E0)
 have VC : Hid (∀ u : World, Below X.heap.size X u → Calls Tryz.prog 207 #[.agg #[.string (mkB e.o.c.id), .int .i64 e.o.c.kind, .int .i64 e.o.c.x, .int .i64 e.o.c.y, .slice A3 e.o.c.refs.length c3, .slice A4 e.o.c.tags.length c4]] u fun en w' => en = .returned (.bool (At.validO e.o.c)) ∧ Below u.heap.size u w') := Lib.hid (fun u hu => by
  have := r11valid_any e.o u ((ho1.below BX).below hu) hs.ob
  unfold roA at this
  rw [v3, v4] at this
  exact this)
 clear hX E0 EL BX h hs ho1 HRO SRO r1 v1 v3 v4 hv hnr hbL hbO hbS hbv RB0 hop hz
 obtain ⟨R, hR⟩ : ∃ R, R = validE e.c := ⟨_, rfl⟩
 rw [← hR] at PM ⊢
 clear hR
 go_enter Tryz.func184, Tryz.ntmps184
 go_upto_region 1 with fail
 rw [← X0.out]
 clear X0
 go_upto_region 4 with (first
  | (refine wpList_load_mid rfl 93 (.tmp 1) rfl w.heap.size 0 rfl [.int .i64 e.op, .string (mkB e.id), .string (mkB e.other), .string (mkB e.node), .int .i64 e.x, .int .i64 e.y, .string (mkB e.key), .string (mkB e.value), .slice A1 nr c1, .string (mkB e.o.c.id), .int .i64 e.o.c.kind, .int .i64 e.o.c.x, .int .i64 e.o.c.y, .slice A3 e.o.c.refs.length c3, .slice A4 e.o.c.tags.length c4] _ RX.out Tryz.underlying93 rfl (by kernel_rfl) ?_)
  | ((with_reducible refine RB.out.mono ?_); rintro en u1 ⟨rfl, b1⟩))
 obtain ⟨g, hg⟩ : ∃ g, u1.heap.size = g := ⟨_, rfl⟩
 obtain ⟨U, hU⟩ : ∃ U, U = u1.alloc (.cells #[.int .i64 e.op, .string ⟨#[]⟩, .string ⟨#[]⟩, .string ⟨#[]⟩, .int .i64 0, .int .i64 0, .string ⟨#[]⟩, .string ⟨#[]⟩, .slice Ab 0 cb, .string ⟨#[]⟩, .int .i64 0, .int .i64 0, .int .i64 0, .slice Ac 0 cc, .slice Ad 0 cd] 93) := ⟨_, rfl⟩
 have EU : U.heap[g]? = some (.cells #[.int .i64 e.op, .string ⟨#[]⟩, .string ⟨#[]⟩, .string ⟨#[]⟩, .int .i64 0, .int .i64 0, .string ⟨#[]⟩, .string ⟨#[]⟩, .slice Ab 0 cb, .string ⟨#[]⟩, .int .i64 0, .int .i64 0, .int .i64 0, .slice Ac 0 cc, .slice Ad 0 cd] 93 (0, 0)) := by rw [hU, ← hg]; exact heap_alloc_new u1 _
 have BU : Below X.heap.size X U := by rw [hU]; exact b1.alloc b1.size _
 have SO := Lib.hid (RO.out U BU)
 rw [← hU, hg]
 have z1 := load_block (i := 1) EU rfl
 have z2 := load_block (i := 2) EU rfl
 have z3 := load_block (i := 3) EU rfl
 have z4 := load_block (i := 4) EU rfl
 have z5 := load_block (i := 5) EU rfl
 have z6 := load_block (i := 6) EU rfl
 have z7 := load_block (i := 7) EU rfl
 have z8 := load_block (i := 8) EU rfl
 have z9 := load_block (i := 9) EU rfl
 have z10 := load_block (i := 10) EU rfl
 have z11 := load_block (i := 11) EU rfl
 have z12 := load_block (i := 12) EU rfl
 have z13 := load_block (i := 13) EU rfl
 have z14 := load_block (i := 14) EU rfl
 clear hU hg EU b1 RB RX RO x0
 go_wp2_with fail
 (with_reducible refine SO.out.mono ?_)
 rintro en u2 ⟨rfl, b2⟩
 have O2 : OldB X u2 := BU.trans (Below.mono b2 BU.size)
 clear b2 SO BU z1 z2 z3 z4 z5 z6 z7 z8 z9 z10 z11 z12 z13 z14
 have F2 := Lib.hid (BH.out.trans (Below.mono O2 BH.out.size))
 have V2 := Lib.hid (VC.out u2 O2)
 have y0 := load_block (i := 0) (XC.out u2 O2) rfl
 have y9 := load_block (i := 9) (XC.out u2 O2) rfl
 have y10 := load_block (i := 10) (XC.out u2 O2) rfl
 have y11 := load_block (i := 11) (XC.out u2 O2) rfl
 have y12 := load_block (i := 12) (XC.out u2 O2) rfl
 have y13 := load_block (i := 13) (XC.out u2 O2) rfl
 have y14 := load_block (i := 14) (XC.out u2 O2) rfl
 clear VC XC O2
 go_wp2_with fail
 (with_reducible refine V2.out.mono ?_)
 rintro en u3 ⟨rfl, b3⟩
 have F3 := Lib.hid (F2.out.trans (b3.mono F2.out.size))
 clear b3 V2
 go_wp2_with fail
 go_ret
 exact ⟨by rw [PM.out]; rfl, F3.out⟩
end Go.Proofs.YtniklmikdkjgiaaGreatDoor
