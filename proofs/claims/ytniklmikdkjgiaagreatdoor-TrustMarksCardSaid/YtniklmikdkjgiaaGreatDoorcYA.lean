import Derived.Test.YtniklmikdkjgiaaGreatDoorcXF
import Derived.Test.YtniklmikdkjgiaaGreatDoorWD
set_option linter.all false
set_option maxHeartbeats 16000000
set_option maxRecDepth 100000
namespace Go.Proofs.YtniklmikdkjgiaaGreatDoor
open Go.RowKit
theorem evalid_1 (e : EV) (w : World) (h : EvIs w e) (hs : EdSz e.c) (hop : e.op = 1) :
    Calls Tryz.prog 173 #[evA e] w fun en w' => en = .returned (.bool (okE e.c && sameE (bareV e).c e.c)) ∧ Below w.heap.size w w' := by
  have e1 : (e.op == 1) = true := by rw [hop]; rfl
  have G1 := Lib.hid hop
  clear hop
  obtain ⟨⟨A1, c1, v1, r1⟩, ho1⟩ := id h
  obtain ⟨⟨A3, c3, v3, -⟩, ⟨A4, c4, v4, -⟩⟩ := id ho1
  have hv : evA e = .agg #[.int .i64 e.op, .string (mkB e.id), .string (mkB e.other), .string (mkB e.node), .int .i64 e.x, .int .i64 e.y, .string (mkB e.key), .string (mkB e.value), .slice A1 e.refs.length c1, .string (mkB e.o.c.id), .int .i64 e.o.c.kind, .int .i64 e.o.c.x, .int .i64 e.o.c.y, .slice A3 e.o.c.refs.length c3, .slice A4 e.o.c.tags.length c4] := by unfold evA evL; rw [v1, v3, v4]
  have hro : roA e.o = .agg #[.string (mkB e.o.c.id), .int .i64 e.o.c.kind, .int .i64 e.o.c.x, .int .i64 e.o.c.y, .slice A3 e.o.c.refs.length c3, .slice A4 e.o.c.tags.length c4] := by unfold roA; rw [v3, v4]
  obtain ⟨bt, hbt⟩ : ∃ bt, w.heap.size + 1 = bt := ⟨_, rfl⟩
  obtain ⟨W, hW⟩ : ∃ W, W = (w.alloc (.cells #[.int .i64 e.op, .string (mkB e.id), .string (mkB e.other), .string (mkB e.node), .int .i64 e.x, .int .i64 e.y, .string (mkB e.key), .string (mkB e.value), .slice A1 e.refs.length c1, .string (mkB e.o.c.id), .int .i64 e.o.c.kind, .int .i64 e.o.c.x, .int .i64 e.o.c.y, .slice A3 e.o.c.refs.length c3, .slice A4 e.o.c.tags.length c4] 93)).alloc (.cells #[.int .i64 e.op, .string (mkB e.id), .string ⟨#[]⟩, .string ⟨#[]⟩, .int .i64 0, .int .i64 0, .string ⟨#[]⟩, .string ⟨#[]⟩, .slice none 0 0, .string ⟨#[]⟩, .int .i64 0, .int .i64 0, .int .i64 0, .slice none 0 0, .slice none 0 0] 93) := ⟨_, rfl⟩
  have HX : Hid (W.heap[w.heap.size]? = some (.cells #[.int .i64 e.op, .string (mkB e.id), .string (mkB e.other), .string (mkB e.node), .int .i64 e.x, .int .i64 e.y, .string (mkB e.key), .string (mkB e.value), .slice A1 e.refs.length c1, .string (mkB e.o.c.id), .int .i64 e.o.c.kind, .int .i64 e.o.c.x, .int .i64 e.o.c.y, .slice A3 e.o.c.refs.length c3, .slice A4 e.o.c.tags.length c4] 93 (0, 0))) := Lib.hid (by rw [hW]; exact (alloc_old _ _ (by simp)).trans (heap_alloc_new w _))
  have E : Hid (W.heap[bt]? = some (.cells #[.int .i64 e.op, .string (mkB e.id), .string ⟨#[]⟩, .string ⟨#[]⟩, .int .i64 0, .int .i64 0, .string ⟨#[]⟩, .string ⟨#[]⟩, .slice none 0 0, .string ⟨#[]⟩, .int .i64 0, .int .i64 0, .int .i64 0, .slice none 0 0, .slice none 0 0] 93 (0, 0))) := Lib.hid (by rw [hW, ← hbt]; exact alloc_new' _ _ _ (by simp))
  have HZ : W.heap.size = w.heap.size + 2 := by rw [hW]; simp
  have BH : Hid (Below w.heap.size w W) := Lib.hid (by rw [hW]; exact ((Below.refl _ _).alloc (Nat.le_refl _) _).alloc (by simp) _)
  have BA : Hid (∀ u, XB bt W u → Below w.heap.size w u) := Lib.hid (fun u hu => BH.out.trans (But.below hu (by omega) (by intro k hk; omega)))
  have kx : ∀ (i : Nat) v, (#[.int .i64 e.op, .string (mkB e.id), .string (mkB e.other), .string (mkB e.node), .int .i64 e.x, .int .i64 e.y, .string (mkB e.key), .string (mkB e.value), .slice A1 e.refs.length c1, .string (mkB e.o.c.id), .int .i64 e.o.c.kind, .int .i64 e.o.c.x, .int .i64 e.o.c.y, .slice A3 e.o.c.refs.length c3, .slice A4 e.o.c.tags.length c4] : Array Value)[i]? = some v → ∀ u, XB bt W u → u.cell? ⟨w.heap.size, i, none⟩ = some v := fun i v hv u hu => by
    rw [Lib.cell_of_heap ((But.block hu w.heap.size (by omega) (by omega)).trans HX.out)]; exact hv
  have k0 := kx 0 _ rfl
  have k1 := kx 1 _ rfl
  have k2 := kx 2 _ rfl
  have k3 := kx 3 _ rfl
  have k4 := kx 4 _ rfl
  have k5 := kx 5 _ rfl
  have k6 := kx 6 _ rfl
  have k7 := kx 7 _ rfl
  have k8 := kx 8 _ rfl
  have k9 := kx 9 _ rfl
  have k10 := kx 10 _ rfl
  have k11 := kx 11 _ rfl
  have k12 := kx 12 _ rfl
  have k13 := kx 13 _ rfl
  have k14 := kx 14 _ rfl
  clear kx
  have VA : Hid (∀ u, XB bt W u → Calls Tryz.prog 196 #[roA e.o] u fun e2 w' => e2 = .returned (.bool (At.validO e.o.c)) ∧ Below u.heap.size u w') := Lib.hid (fun u hu => valid_any e.o u (ho1.below (BA.out u hu)) hs.ob hs.obr)
  rw [hro] at VA
  have SA : Hid (∀ u, XB bt W u → Calls Tryz.prog 197 #[evA (bareV e), evA e] u fun e2 w' => e2 = .returned (.bool (sameE (bareV e).c e.c)) ∧ Below u.heap.size u w') := Lib.hid (fun u hu => esame_any (bareV e) e u ((bare_is h).below (BA.out u hu)) (h.below (BA.out u hu)) (bare_sz hs) hs)
  rw [hv] at SA ⊢
  have R1 := Lib.hid r1
  have NA := names1L e.id W hs.id
  clear r1 h ho1 hv hro HZ
  go_enter Tryz.func173, Tryz.ntmps173
  go_upto_region 2 with fail
  rw [← hW]
  try rw [hbt]
  have SW : XB bt W W := But.refl _ _
  have NH := Lib.hid NA
  clear hW NA
  go_wp2_with fail
  refine NH.out.mono ?_
  rintro en u1 ⟨rfl, d1⟩
  have d2 := ((Below.refl W.heap.size W).alloc (Nat.le_refl _) (.cells #[.string (mkB e.id)] 9)).trans (d1.mono (by simp))
  have E := Lib.hid (XB.keep SW E.out d2)
  have S1 := Lib.hid (XB.call SW d2)
  have hH := S1.out
  obtain ⟨nb, hnb⟩ : ∃ nb, At.nameB e.id = nb := ⟨_, rfl⟩
  have hnb' : At.nameB e.c.id = nb := hnb
  rw [hnb]
  have NB := Lib.hid hnb'
  clear d1 d2 SW NH hnb hnb'
  have HB : Hid (evA (bareV e) = .agg #[.int .i64 e.op, .string ⟨#[]⟩, .string ⟨#[]⟩, .string ⟨#[]⟩, .int .i64 0, .int .i64 0, .string ⟨#[]⟩, .string ⟨#[]⟩, .slice none 0 0, .string (mkB e.o.c.id), .int .i64 e.o.c.kind, .int .i64 e.o.c.x, .int .i64 e.o.c.y, .slice A3 e.o.c.refs.length c3, .slice A4 e.o.c.tags.length c4]) := Lib.hid (by unfold bareV; rw [if_pos G1.out]; unfold evA evL; rw [v3, v4]; rfl)
  rw [HB.out] at SA
  go_upto_region 6 with fail
  (refine wp_region_noPanic ?_; refine wp_region_held_drew (S := (XB bt W)) (by kernel_rfl) ?_ (fun hHeld => ?_); exact XB.drew S1.out)
  clear hH
  have E := Lib.hid (XB.same hHeld E.out)
  generalize u1.drew = ud at *
  have OK : Hid (okE e.c = At.validO e.o.c) := Lib.hid (by unfold okE; rw [if_pos (show e.c.op = 1 from G1.out)]; rfl)
  (refine tkW 0 ?_; try simp only [gmS])
  (refine tkW 1 ?_; try simp only [gmS])
  (refine tkW 2 ?_; try simp only [gmS])
  (refine tkW 3 ?_; try simp only [gmS])
  (refine tkW 5 ?_; try simp only [gmS])
  (refine rdW 4 (fun K hK => ?_))
  go_simp
  refine (VA.out _ hHeld).mono ?_
  rintro en u2 ⟨rfl, d2⟩
  have E := Lib.hid (XB.keep hHeld E.out d2)
  (refine hK.out _ _ (XB.call hHeld d2) (fun hHeld2 => ?_); clear hK K hHeld; have hHeld := hHeld2; clear hHeld2; try simp only [gmS])
  have t1 := cell_of_row _ bt 1 _ _ _ E.out
  simp at t1
  have f1 := free_blk E.out 1
  (refine rdW 6 (fun K hK => ?_))
  go_simp
  have E := Lib.hid (row_put8 (g := bt) (k := 1) (E.out) (.string ⟨#[]⟩))
  (refine hK.out _ _ (XB.set (hHeld) 1 (.string ⟨#[]⟩)) (fun hHeld2 => ?_); clear hK K hHeld; have hHeld := hHeld2; clear hHeld2; try simp only [gmS])
  clear t1 f1
  (refine tkW 7 ?_; try simp only [gmS])
  have t9 := cell_of_row _ bt 9 _ _ _ E.out
  simp at t9
  have f9 := free_blk E.out 9
  have t10 := cell_of_row _ bt 10 _ _ _ E.out
  simp at t10
  have f10 := free_blk E.out 10
  have t11 := cell_of_row _ bt 11 _ _ _ E.out
  simp at t11
  have f11 := free_blk E.out 11
  have t12 := cell_of_row _ bt 12 _ _ _ E.out
  simp at t12
  have f12 := free_blk E.out 12
  have t13 := cell_of_row _ bt 13 _ _ _ E.out
  simp at t13
  have f13 := free_blk E.out 13
  have t14 := cell_of_row _ bt 14 _ _ _ E.out
  simp at t14
  have f14 := free_blk E.out 14
  (refine rdW 8 (fun K hK => ?_))
  go_simp
  have E := Lib.hid (row_put8 (g := bt) (k := 14) (row_put8 (g := bt) (k := 13) (row_put8 (g := bt) (k := 12) (row_put8 (g := bt) (k := 11) (row_put8 (g := bt) (k := 10) (row_put8 (g := bt) (k := 9) (E.out) (.string (mkB e.o.c.id))) (.int .i64 e.o.c.kind)) (.int .i64 e.o.c.x)) (.int .i64 e.o.c.y)) (.slice A3 e.o.c.refs.length c3)) (.slice A4 e.o.c.tags.length c4))
  (refine hK.out _ _ (XB.set (XB.set (XB.set (XB.set (XB.set (XB.set (hHeld) 9 (.string (mkB e.o.c.id))) 10 (.int .i64 e.o.c.kind)) 11 (.int .i64 e.o.c.x)) 12 (.int .i64 e.o.c.y)) 13 (.slice A3 e.o.c.refs.length c3)) 14 (.slice A4 e.o.c.tags.length c4)) (fun hHeld2 => ?_); clear hK K hHeld; have hHeld := hHeld2; clear hHeld2; try simp only [gmS])
  clear t9 f9 t10 f10 t11 f11 t12 f12 t13 f13 t14 f14
  (refine tkW 9 ?_; try simp only [gmS])
  generalize At.validO e.o.c = vb at *
  cases vb
  · skip
    (refine wpAnyH_done (by kernel_rfl) ?_ _; refine NoPanic.normal ?_)
    have PF : Hid ((okE e.c && sameE (bareV e).c e.c) = false) := Lib.hid (by rw [OK.out]; rfl)
    have XF := Lib.hid (BA.out _ hHeld)
    go_wp2_with fail
    go_ret
    exact ⟨by rw [PF.out]; rfl, XF.out⟩
  · skip
    (refine wpAnyH_done (by kernel_rfl) ?_ _; refine NoPanic.normal ?_)
    have PF : Hid ((okE e.c && sameE (bareV e).c e.c) = sameE (bareV e).c e.c) := Lib.hid (by rw [OK.out]; rfl)
    have t0 := cell_of_row _ bt 0 _ _ _ E.out
    have t1 := cell_of_row _ bt 1 _ _ _ E.out
    have t2 := cell_of_row _ bt 2 _ _ _ E.out
    have t3 := cell_of_row _ bt 3 _ _ _ E.out
    have t4 := cell_of_row _ bt 4 _ _ _ E.out
    have t5 := cell_of_row _ bt 5 _ _ _ E.out
    have t6 := cell_of_row _ bt 6 _ _ _ E.out
    have t7 := cell_of_row _ bt 7 _ _ _ E.out
    have t8 := cell_of_row _ bt 8 _ _ _ E.out
    have t9 := cell_of_row _ bt 9 _ _ _ E.out
    have t10 := cell_of_row _ bt 10 _ _ _ E.out
    have t11 := cell_of_row _ bt 11 _ _ _ E.out
    have t12 := cell_of_row _ bt 12 _ _ _ E.out
    have t13 := cell_of_row _ bt 13 _ _ _ E.out
    have t14 := cell_of_row _ bt 14 _ _ _ E.out
    simp at t0 t1 t2 t3 t4 t5 t6 t7 t8 t9 t10 t11 t12 t13 t14
    have HH := Lib.hid hHeld
    have XX := Lib.hid (BA.out _ hHeld)
    go_wp2_with fail
    have SS := SA.out _ HH.out
    (with_reducible refine SS.mono ?_)
    clear SS
    rintro en u3 ⟨rfl, d3⟩
    have DD := Lib.hid (XX.out.trans (d3.mono XX.out.size))
    clear d3
    go_wp2_with fail
    go_ret
    exact ⟨by rw [PF.out]; rfl, DD.out⟩
theorem evalid_2 (e : EV) (w : World) (h : EvIs w e) (hs : EdSz e.c) (hop : e.op = 2) :
    Calls Tryz.prog 173 #[evA e] w fun en w' => en = .returned (.bool (okE e.c && sameE (bareV e).c e.c)) ∧ Below w.heap.size w w' := by
  have G1 : Hid (¬ e.op = 1) := Lib.hid (by rw [hop]; decide)
  have e1 : (e.op == 1) = false := by simpa using G1.out
  have e2 : (e.op == 2) = true := by rw [hop]; rfl
  have G2 := Lib.hid hop
  clear hop
  obtain ⟨⟨A1, c1, v1, r1⟩, ho1⟩ := id h
  obtain ⟨⟨A3, c3, v3, -⟩, ⟨A4, c4, v4, -⟩⟩ := id ho1
  have hv : evA e = .agg #[.int .i64 e.op, .string (mkB e.id), .string (mkB e.other), .string (mkB e.node), .int .i64 e.x, .int .i64 e.y, .string (mkB e.key), .string (mkB e.value), .slice A1 e.refs.length c1, .string (mkB e.o.c.id), .int .i64 e.o.c.kind, .int .i64 e.o.c.x, .int .i64 e.o.c.y, .slice A3 e.o.c.refs.length c3, .slice A4 e.o.c.tags.length c4] := by unfold evA evL; rw [v1, v3, v4]
  have hro : roA e.o = .agg #[.string (mkB e.o.c.id), .int .i64 e.o.c.kind, .int .i64 e.o.c.x, .int .i64 e.o.c.y, .slice A3 e.o.c.refs.length c3, .slice A4 e.o.c.tags.length c4] := by unfold roA; rw [v3, v4]
  obtain ⟨bt, hbt⟩ : ∃ bt, w.heap.size + 1 = bt := ⟨_, rfl⟩
  obtain ⟨W, hW⟩ : ∃ W, W = (w.alloc (.cells #[.int .i64 e.op, .string (mkB e.id), .string (mkB e.other), .string (mkB e.node), .int .i64 e.x, .int .i64 e.y, .string (mkB e.key), .string (mkB e.value), .slice A1 e.refs.length c1, .string (mkB e.o.c.id), .int .i64 e.o.c.kind, .int .i64 e.o.c.x, .int .i64 e.o.c.y, .slice A3 e.o.c.refs.length c3, .slice A4 e.o.c.tags.length c4] 93)).alloc (.cells #[.int .i64 e.op, .string (mkB e.id), .string ⟨#[]⟩, .string ⟨#[]⟩, .int .i64 0, .int .i64 0, .string ⟨#[]⟩, .string ⟨#[]⟩, .slice none 0 0, .string ⟨#[]⟩, .int .i64 0, .int .i64 0, .int .i64 0, .slice none 0 0, .slice none 0 0] 93) := ⟨_, rfl⟩
  have HX : Hid (W.heap[w.heap.size]? = some (.cells #[.int .i64 e.op, .string (mkB e.id), .string (mkB e.other), .string (mkB e.node), .int .i64 e.x, .int .i64 e.y, .string (mkB e.key), .string (mkB e.value), .slice A1 e.refs.length c1, .string (mkB e.o.c.id), .int .i64 e.o.c.kind, .int .i64 e.o.c.x, .int .i64 e.o.c.y, .slice A3 e.o.c.refs.length c3, .slice A4 e.o.c.tags.length c4] 93 (0, 0))) := Lib.hid (by rw [hW]; exact (alloc_old _ _ (by simp)).trans (heap_alloc_new w _))
  have E : Hid (W.heap[bt]? = some (.cells #[.int .i64 e.op, .string (mkB e.id), .string ⟨#[]⟩, .string ⟨#[]⟩, .int .i64 0, .int .i64 0, .string ⟨#[]⟩, .string ⟨#[]⟩, .slice none 0 0, .string ⟨#[]⟩, .int .i64 0, .int .i64 0, .int .i64 0, .slice none 0 0, .slice none 0 0] 93 (0, 0))) := Lib.hid (by rw [hW, ← hbt]; exact alloc_new' _ _ _ (by simp))
  have HZ : W.heap.size = w.heap.size + 2 := by rw [hW]; simp
  have BH : Hid (Below w.heap.size w W) := Lib.hid (by rw [hW]; exact ((Below.refl _ _).alloc (Nat.le_refl _) _).alloc (by simp) _)
  have BA : Hid (∀ u, XB bt W u → Below w.heap.size w u) := Lib.hid (fun u hu => BH.out.trans (But.below hu (by omega) (by intro k hk; omega)))
  have kx : ∀ (i : Nat) v, (#[.int .i64 e.op, .string (mkB e.id), .string (mkB e.other), .string (mkB e.node), .int .i64 e.x, .int .i64 e.y, .string (mkB e.key), .string (mkB e.value), .slice A1 e.refs.length c1, .string (mkB e.o.c.id), .int .i64 e.o.c.kind, .int .i64 e.o.c.x, .int .i64 e.o.c.y, .slice A3 e.o.c.refs.length c3, .slice A4 e.o.c.tags.length c4] : Array Value)[i]? = some v → ∀ u, XB bt W u → u.cell? ⟨w.heap.size, i, none⟩ = some v := fun i v hv u hu => by
    rw [Lib.cell_of_heap ((But.block hu w.heap.size (by omega) (by omega)).trans HX.out)]; exact hv
  have k0 := kx 0 _ rfl
  have k1 := kx 1 _ rfl
  have k2 := kx 2 _ rfl
  have k3 := kx 3 _ rfl
  have k4 := kx 4 _ rfl
  have k5 := kx 5 _ rfl
  have k6 := kx 6 _ rfl
  have k7 := kx 7 _ rfl
  have k8 := kx 8 _ rfl
  have k9 := kx 9 _ rfl
  have k10 := kx 10 _ rfl
  have k11 := kx 11 _ rfl
  have k12 := kx 12 _ rfl
  have k13 := kx 13 _ rfl
  have k14 := kx 14 _ rfl
  clear kx
  have VA : Hid (∀ u, XB bt W u → Calls Tryz.prog 196 #[roA e.o] u fun e2 w' => e2 = .returned (.bool (At.validO e.o.c)) ∧ Below u.heap.size u w') := Lib.hid (fun u hu => valid_any e.o u (ho1.below (BA.out u hu)) hs.ob hs.obr)
  rw [hro] at VA
  have SA : Hid (∀ u, XB bt W u → Calls Tryz.prog 197 #[evA (bareV e), evA e] u fun e2 w' => e2 = .returned (.bool (sameE (bareV e).c e.c)) ∧ Below u.heap.size u w') := Lib.hid (fun u hu => esame_any (bareV e) e u ((bare_is h).below (BA.out u hu)) (h.below (BA.out u hu)) (bare_sz hs) hs)
  rw [hv] at SA ⊢
  have R1 := Lib.hid r1
  have NA := names1L e.id W hs.id
  clear r1 h ho1 hv hro HZ
  go_enter Tryz.func173, Tryz.ntmps173
  go_upto_region 2 with fail
  rw [← hW]
  try rw [hbt]
  have SW : XB bt W W := But.refl _ _
  have NH := Lib.hid NA
  clear hW NA
  go_wp2_with fail
  refine NH.out.mono ?_
  rintro en u1 ⟨rfl, d1⟩
  have d2 := ((Below.refl W.heap.size W).alloc (Nat.le_refl _) (.cells #[.string (mkB e.id)] 9)).trans (d1.mono (by simp))
  have E := Lib.hid (XB.keep SW E.out d2)
  have S1 := Lib.hid (XB.call SW d2)
  have hH := S1.out
  obtain ⟨nb, hnb⟩ : ∃ nb, At.nameB e.id = nb := ⟨_, rfl⟩
  have hnb' : At.nameB e.c.id = nb := hnb
  rw [hnb]
  have NB := Lib.hid hnb'
  clear d1 d2 SW NH hnb hnb'
  have HB : Hid (evA (bareV e) = .agg #[.int .i64 e.op, .string (mkB e.id), .string ⟨#[]⟩, .string ⟨#[]⟩, .int .i64 e.x, .int .i64 e.y, .string ⟨#[]⟩, .string ⟨#[]⟩, .slice none 0 0, .string ⟨#[]⟩, .int .i64 0, .int .i64 0, .int .i64 0, .slice none 0 0, .slice none 0 0]) := Lib.hid (by unfold bareV; rw [if_neg G1.out, if_pos G2.out]; unfold evA evL; rfl)
  rw [HB.out] at SA
  have OK : Hid (okE e.c = (nb && decide (0 ≤ min e.x e.y) && decide (max e.x e.y < 1048576))) := Lib.hid (by unfold okE; rw [if_neg (show ¬ e.c.op = 1 from G1.out), if_pos (show e.c.op = 2 from G2.out), NB.out]; rfl)
  cases nb
  · skip
    go_upto_region 8 with fail
    (refine wp_region_noPanic ?_; refine wp_region_held_drew (S := (XB bt W)) (by kernel_rfl) ?_ (fun hHeld => ?_); exact XB.drew S1.out)
    clear hH
    have E := Lib.hid (XB.same hHeld E.out)
    generalize u1.drew = ud at *
    (refine tkW 0 ?_; try simp only [gmS])
    (refine tkW 1 ?_; try simp only [gmS])
    (refine tkW 2 ?_; try simp only [gmS])
    (refine tkW 3 ?_; try simp only [gmS])
    (refine skW 4 ?_; try simp only [gmS])
    (refine skW 5 ?_; try simp only [gmS])
    (refine skW 6 ?_; try simp only [gmS])
    (refine skW 7 ?_; try simp only [gmS])
    (refine skW 8 ?_; try simp only [gmS])
    (refine skW 9 ?_; try simp only [gmS])
    (refine skW 10 ?_; try simp only [gmS])
    (refine skW 11 ?_; try simp only [gmS])
    (refine tkW 12 ?_; try simp only [gmS])
    (refine tkW 13 ?_; try simp only [gmS])
    (refine skW 14 ?_; try simp only [gmS])
    (refine skW 15 ?_; try simp only [gmS])
    (refine skW 16 ?_; try simp only [gmS])
    (refine skW 17 ?_; try simp only [gmS])
    (refine skW 18 ?_; try simp only [gmS])
    (refine skW 19 ?_; try simp only [gmS])
    (refine skW 20 ?_; try simp only [gmS])
    (refine skW 21 ?_; try simp only [gmS])
    (refine tkW 22 ?_; try simp only [gmS])
    (refine tkW 23 ?_; try simp only [gmS])
    have t4 := cell_of_row _ bt 4 _ _ _ E.out
    simp at t4
    have f4 := free_blk E.out 4
    have t5 := cell_of_row _ bt 5 _ _ _ E.out
    simp at t5
    have f5 := free_blk E.out 5
    (refine rdW 24 (fun K hK => ?_))
    go_simp
    have E := Lib.hid (row_put8 (g := bt) (k := 5) (row_put8 (g := bt) (k := 4) (E.out) (.int .i64 e.x)) (.int .i64 e.y))
    (refine hK.out _ _ (XB.set (XB.set (hHeld) 4 (.int .i64 e.x)) 5 (.int .i64 e.y)) (fun hHeld2 => ?_); clear hK K hHeld; have hHeld := hHeld2; clear hHeld2; try simp only [gmS])
    clear t4 f4 t5 f5
    (refine tkW 25 ?_; try simp only [gmS])
    (refine wpAnyH_done (by kernel_rfl) ?_ _; refine NoPanic.normal ?_)
    have PF : Hid ((okE e.c && sameE (bareV e).c e.c) = false) := Lib.hid (by rw [OK.out]; rfl)
    have XF := Lib.hid (BA.out _ hHeld)
    go_wp2_with fail
    go_ret
    exact ⟨by rw [PF.out]; rfl, XF.out⟩
  · skip
    rw [Bool.true_and] at OK
    cases hm : decide (0 ≤ min e.x e.y)
    · rw [hm] at OK
      go_upto_region 8 with fail
      (refine wp_region_noPanic ?_; refine wp_region_held_drew (S := (XB bt W)) (by kernel_rfl) ?_ (fun hHeld => ?_); exact XB.drew S1.out)
      clear hH
      have E := Lib.hid (XB.same hHeld E.out)
      generalize u1.drew = ud at *
      (refine tkW 0 ?_; try simp only [gmS])
      (refine tkW 1 ?_; try simp only [gmS])
      (refine tkW 2 ?_; try simp only [gmS])
      (refine tkW 3 ?_; try simp only [gmS])
      (refine tkW 4 ?_; try simp only [gmS])
      (refine tkW 5 ?_; try simp only [gmS])
      (refine tkW 6 ?_; try simp only [gmS])
      (refine tkW 7 ?_; try simp only [gmS])
      (refine tkW 8 ?_; try simp only [gmS])
      (refine tkW 9 ?_; try simp only [gmS])
      (refine tkW 10 ?_; try simp only [gmS])
      (refine tkW 11 (v := .bool false) ?_; try simp only [gmS])
      (refine tkW 12 ?_; try simp only [gmS])
      (refine tkW 13 ?_; try simp only [gmS])
      (refine skW 14 ?_; try simp only [gmS])
      (refine skW 15 ?_; try simp only [gmS])
      (refine skW 16 ?_; try simp only [gmS])
      (refine skW 17 ?_; try simp only [gmS])
      (refine skW 18 ?_; try simp only [gmS])
      (refine skW 19 ?_; try simp only [gmS])
      (refine skW 20 ?_; try simp only [gmS])
      (refine skW 21 ?_; try simp only [gmS])
      (refine tkW 22 ?_; try simp only [gmS])
      (refine tkW 23 ?_; try simp only [gmS])
      have t4 := cell_of_row _ bt 4 _ _ _ E.out
      simp at t4
      have f4 := free_blk E.out 4
      have t5 := cell_of_row _ bt 5 _ _ _ E.out
      simp at t5
      have f5 := free_blk E.out 5
      (refine rdW 24 (fun K hK => ?_))
      go_simp
      have E := Lib.hid (row_put8 (g := bt) (k := 5) (row_put8 (g := bt) (k := 4) (E.out) (.int .i64 e.x)) (.int .i64 e.y))
      (refine hK.out _ _ (XB.set (XB.set (hHeld) 4 (.int .i64 e.x)) 5 (.int .i64 e.y)) (fun hHeld2 => ?_); clear hK K hHeld; have hHeld := hHeld2; clear hHeld2; try simp only [gmS])
      clear t4 f4 t5 f5
      (refine tkW 25 ?_; try simp only [gmS])
      (refine wpAnyH_done (by kernel_rfl) ?_ _; refine NoPanic.normal ?_)
      have PF : Hid ((okE e.c && sameE (bareV e).c e.c) = false) := Lib.hid (by rw [OK.out]; rfl)
      have XF := Lib.hid (BA.out _ hHeld)
      go_wp2_with fail
      go_ret
      exact ⟨by rw [PF.out]; rfl, XF.out⟩
    · rw [hm, Bool.true_and] at OK
      cases hx : decide (max e.x e.y < 1048576)
      · rw [hx] at OK
        go_upto_region 8 with fail
        (refine wp_region_noPanic ?_; refine wp_region_held_drew (S := (XB bt W)) (by kernel_rfl) ?_ (fun hHeld => ?_); exact XB.drew S1.out)
        clear hH
        have E := Lib.hid (XB.same hHeld E.out)
        generalize u1.drew = ud at *
        (refine tkW 0 ?_; try simp only [gmS])
        (refine tkW 1 ?_; try simp only [gmS])
        (refine tkW 2 ?_; try simp only [gmS])
        (refine tkW 3 ?_; try simp only [gmS])
        (refine tkW 4 ?_; try simp only [gmS])
        (refine tkW 5 ?_; try simp only [gmS])
        (refine tkW 6 ?_; try simp only [gmS])
        (refine tkW 7 ?_; try simp only [gmS])
        (refine tkW 8 ?_; try simp only [gmS])
        (refine tkW 9 ?_; try simp only [gmS])
        (refine tkW 10 ?_; try simp only [gmS])
        (refine tkW 11 (v := .bool true) ?_; try simp only [gmS])
        (refine tkW 12 ?_; try simp only [gmS])
        (refine tkW 13 ?_; try simp only [gmS])
        (refine tkW 14 ?_; try simp only [gmS])
        (refine tkW 15 ?_; try simp only [gmS])
        (refine tkW 16 ?_; try simp only [gmS])
        (refine tkW 17 ?_; try simp only [gmS])
        (refine tkW 18 ?_; try simp only [gmS])
        (refine tkW 19 ?_; try simp only [gmS])
        (refine tkW 20 ?_; try simp only [gmS])
        (refine tkW 21 (v := .bool false) ?_; try simp only [gmS])
        (refine tkW 22 ?_; try simp only [gmS])
        (refine tkW 23 ?_; try simp only [gmS])
        have t4 := cell_of_row _ bt 4 _ _ _ E.out
        simp at t4
        have f4 := free_blk E.out 4
        have t5 := cell_of_row _ bt 5 _ _ _ E.out
        simp at t5
        have f5 := free_blk E.out 5
        (refine rdW 24 (fun K hK => ?_))
        go_simp
        have E := Lib.hid (row_put8 (g := bt) (k := 5) (row_put8 (g := bt) (k := 4) (E.out) (.int .i64 e.x)) (.int .i64 e.y))
        (refine hK.out _ _ (XB.set (XB.set (hHeld) 4 (.int .i64 e.x)) 5 (.int .i64 e.y)) (fun hHeld2 => ?_); clear hK K hHeld; have hHeld := hHeld2; clear hHeld2; try simp only [gmS])
        clear t4 f4 t5 f5
        (refine tkW 25 ?_; try simp only [gmS])
        (refine wpAnyH_done (by kernel_rfl) ?_ _; refine NoPanic.normal ?_)
        have PF : Hid ((okE e.c && sameE (bareV e).c e.c) = false) := Lib.hid (by rw [OK.out]; rfl)
        have XF := Lib.hid (BA.out _ hHeld)
        go_wp2_with fail
        go_ret
        exact ⟨by rw [PF.out]; rfl, XF.out⟩
      · rw [hx] at OK
        go_upto_region 8 with fail
        (refine wp_region_noPanic ?_; refine wp_region_held_drew (S := (XB bt W)) (by kernel_rfl) ?_ (fun hHeld => ?_); exact XB.drew S1.out)
        clear hH
        have E := Lib.hid (XB.same hHeld E.out)
        generalize u1.drew = ud at *
        (refine tkW 0 ?_; try simp only [gmS])
        (refine tkW 1 ?_; try simp only [gmS])
        (refine tkW 2 ?_; try simp only [gmS])
        (refine tkW 3 ?_; try simp only [gmS])
        (refine tkW 4 ?_; try simp only [gmS])
        (refine tkW 5 ?_; try simp only [gmS])
        (refine tkW 6 ?_; try simp only [gmS])
        (refine tkW 7 ?_; try simp only [gmS])
        (refine tkW 8 ?_; try simp only [gmS])
        (refine tkW 9 ?_; try simp only [gmS])
        (refine tkW 10 ?_; try simp only [gmS])
        (refine tkW 11 (v := .bool true) ?_; try simp only [gmS])
        (refine tkW 12 ?_; try simp only [gmS])
        (refine tkW 13 ?_; try simp only [gmS])
        (refine tkW 14 ?_; try simp only [gmS])
        (refine tkW 15 ?_; try simp only [gmS])
        (refine tkW 16 ?_; try simp only [gmS])
        (refine tkW 17 ?_; try simp only [gmS])
        (refine tkW 18 ?_; try simp only [gmS])
        (refine tkW 19 ?_; try simp only [gmS])
        (refine tkW 20 ?_; try simp only [gmS])
        (refine tkW 21 (v := .bool true) ?_; try simp only [gmS])
        (refine tkW 22 ?_; try simp only [gmS])
        (refine tkW 23 ?_; try simp only [gmS])
        have t4 := cell_of_row _ bt 4 _ _ _ E.out
        simp at t4
        have f4 := free_blk E.out 4
        have t5 := cell_of_row _ bt 5 _ _ _ E.out
        simp at t5
        have f5 := free_blk E.out 5
        (refine rdW 24 (fun K hK => ?_))
        go_simp
        have E := Lib.hid (row_put8 (g := bt) (k := 5) (row_put8 (g := bt) (k := 4) (E.out) (.int .i64 e.x)) (.int .i64 e.y))
        (refine hK.out _ _ (XB.set (XB.set (hHeld) 4 (.int .i64 e.x)) 5 (.int .i64 e.y)) (fun hHeld2 => ?_); clear hK K hHeld; have hHeld := hHeld2; clear hHeld2; try simp only [gmS])
        clear t4 f4 t5 f5
        (refine tkW 25 ?_; try simp only [gmS])
        (refine wpAnyH_done (by kernel_rfl) ?_ _; refine NoPanic.normal ?_)
        have PF : Hid ((okE e.c && sameE (bareV e).c e.c) = sameE (bareV e).c e.c) := Lib.hid (by rw [OK.out]; rfl)
        have t0 := cell_of_row _ bt 0 _ _ _ E.out
        have t1 := cell_of_row _ bt 1 _ _ _ E.out
        have t2 := cell_of_row _ bt 2 _ _ _ E.out
        have t3 := cell_of_row _ bt 3 _ _ _ E.out
        have t4 := cell_of_row _ bt 4 _ _ _ E.out
        have t5 := cell_of_row _ bt 5 _ _ _ E.out
        have t6 := cell_of_row _ bt 6 _ _ _ E.out
        have t7 := cell_of_row _ bt 7 _ _ _ E.out
        have t8 := cell_of_row _ bt 8 _ _ _ E.out
        have t9 := cell_of_row _ bt 9 _ _ _ E.out
        have t10 := cell_of_row _ bt 10 _ _ _ E.out
        have t11 := cell_of_row _ bt 11 _ _ _ E.out
        have t12 := cell_of_row _ bt 12 _ _ _ E.out
        have t13 := cell_of_row _ bt 13 _ _ _ E.out
        have t14 := cell_of_row _ bt 14 _ _ _ E.out
        simp at t0 t1 t2 t3 t4 t5 t6 t7 t8 t9 t10 t11 t12 t13 t14
        have HH := Lib.hid hHeld
        have XX := Lib.hid (BA.out _ hHeld)
        go_wp2_with fail
        have SS := SA.out _ HH.out
        (with_reducible refine SS.mono ?_)
        clear SS
        rintro en u5 ⟨rfl, d5⟩
        have DD := Lib.hid (XX.out.trans (d5.mono XX.out.size))
        clear d5
        go_wp2_with fail
        go_ret
        exact ⟨by rw [PF.out]; rfl, DD.out⟩
theorem evalid_5 (e : EV) (w : World) (h : EvIs w e) (hs : EdSz e.c) (hop : e.op = 5) :
    Calls Tryz.prog 173 #[evA e] w fun en w' => en = .returned (.bool (okE e.c && sameE (bareV e).c e.c)) ∧ Below w.heap.size w w' := by
  have G1 : Hid (¬ e.op = 1) := Lib.hid (by rw [hop]; decide)
  have e1 : (e.op == 1) = false := by simpa using G1.out
  have G2 : Hid (¬ e.op = 2) := Lib.hid (by rw [hop]; decide)
  have e2 : (e.op == 2) = false := by simpa using G2.out
  have G3 : Hid (¬ e.op = 3) := Lib.hid (by rw [hop]; decide)
  have e3 : (e.op == 3) = false := by simpa using G3.out
  have G4 : Hid (¬ e.op = 4) := Lib.hid (by rw [hop]; decide)
  have e4 : (e.op == 4) = false := by simpa using G4.out
  have e5 : (e.op == 5) = true := by rw [hop]; rfl
  have G5 := Lib.hid hop
  clear hop
  obtain ⟨⟨A1, c1, v1, r1⟩, ho1⟩ := id h
  obtain ⟨⟨A3, c3, v3, -⟩, ⟨A4, c4, v4, -⟩⟩ := id ho1
  have hv : evA e = .agg #[.int .i64 e.op, .string (mkB e.id), .string (mkB e.other), .string (mkB e.node), .int .i64 e.x, .int .i64 e.y, .string (mkB e.key), .string (mkB e.value), .slice A1 e.refs.length c1, .string (mkB e.o.c.id), .int .i64 e.o.c.kind, .int .i64 e.o.c.x, .int .i64 e.o.c.y, .slice A3 e.o.c.refs.length c3, .slice A4 e.o.c.tags.length c4] := by unfold evA evL; rw [v1, v3, v4]
  have hro : roA e.o = .agg #[.string (mkB e.o.c.id), .int .i64 e.o.c.kind, .int .i64 e.o.c.x, .int .i64 e.o.c.y, .slice A3 e.o.c.refs.length c3, .slice A4 e.o.c.tags.length c4] := by unfold roA; rw [v3, v4]
  obtain ⟨bt, hbt⟩ : ∃ bt, w.heap.size + 1 = bt := ⟨_, rfl⟩
  obtain ⟨W, hW⟩ : ∃ W, W = (w.alloc (.cells #[.int .i64 e.op, .string (mkB e.id), .string (mkB e.other), .string (mkB e.node), .int .i64 e.x, .int .i64 e.y, .string (mkB e.key), .string (mkB e.value), .slice A1 e.refs.length c1, .string (mkB e.o.c.id), .int .i64 e.o.c.kind, .int .i64 e.o.c.x, .int .i64 e.o.c.y, .slice A3 e.o.c.refs.length c3, .slice A4 e.o.c.tags.length c4] 93)).alloc (.cells #[.int .i64 e.op, .string (mkB e.id), .string ⟨#[]⟩, .string ⟨#[]⟩, .int .i64 0, .int .i64 0, .string ⟨#[]⟩, .string ⟨#[]⟩, .slice none 0 0, .string ⟨#[]⟩, .int .i64 0, .int .i64 0, .int .i64 0, .slice none 0 0, .slice none 0 0] 93) := ⟨_, rfl⟩
  have HX : Hid (W.heap[w.heap.size]? = some (.cells #[.int .i64 e.op, .string (mkB e.id), .string (mkB e.other), .string (mkB e.node), .int .i64 e.x, .int .i64 e.y, .string (mkB e.key), .string (mkB e.value), .slice A1 e.refs.length c1, .string (mkB e.o.c.id), .int .i64 e.o.c.kind, .int .i64 e.o.c.x, .int .i64 e.o.c.y, .slice A3 e.o.c.refs.length c3, .slice A4 e.o.c.tags.length c4] 93 (0, 0))) := Lib.hid (by rw [hW]; exact (alloc_old _ _ (by simp)).trans (heap_alloc_new w _))
  have E : Hid (W.heap[bt]? = some (.cells #[.int .i64 e.op, .string (mkB e.id), .string ⟨#[]⟩, .string ⟨#[]⟩, .int .i64 0, .int .i64 0, .string ⟨#[]⟩, .string ⟨#[]⟩, .slice none 0 0, .string ⟨#[]⟩, .int .i64 0, .int .i64 0, .int .i64 0, .slice none 0 0, .slice none 0 0] 93 (0, 0))) := Lib.hid (by rw [hW, ← hbt]; exact alloc_new' _ _ _ (by simp))
  have HZ : W.heap.size = w.heap.size + 2 := by rw [hW]; simp
  have BH : Hid (Below w.heap.size w W) := Lib.hid (by rw [hW]; exact ((Below.refl _ _).alloc (Nat.le_refl _) _).alloc (by simp) _)
  have BA : Hid (∀ u, XB bt W u → Below w.heap.size w u) := Lib.hid (fun u hu => BH.out.trans (But.below hu (by omega) (by intro k hk; omega)))
  have kx : ∀ (i : Nat) v, (#[.int .i64 e.op, .string (mkB e.id), .string (mkB e.other), .string (mkB e.node), .int .i64 e.x, .int .i64 e.y, .string (mkB e.key), .string (mkB e.value), .slice A1 e.refs.length c1, .string (mkB e.o.c.id), .int .i64 e.o.c.kind, .int .i64 e.o.c.x, .int .i64 e.o.c.y, .slice A3 e.o.c.refs.length c3, .slice A4 e.o.c.tags.length c4] : Array Value)[i]? = some v → ∀ u, XB bt W u → u.cell? ⟨w.heap.size, i, none⟩ = some v := fun i v hv u hu => by
    rw [Lib.cell_of_heap ((But.block hu w.heap.size (by omega) (by omega)).trans HX.out)]; exact hv
  have k0 := kx 0 _ rfl
  have k1 := kx 1 _ rfl
  have k2 := kx 2 _ rfl
  have k3 := kx 3 _ rfl
  have k4 := kx 4 _ rfl
  have k5 := kx 5 _ rfl
  have k6 := kx 6 _ rfl
  have k7 := kx 7 _ rfl
  have k8 := kx 8 _ rfl
  have k9 := kx 9 _ rfl
  have k10 := kx 10 _ rfl
  have k11 := kx 11 _ rfl
  have k12 := kx 12 _ rfl
  have k13 := kx 13 _ rfl
  have k14 := kx 14 _ rfl
  clear kx
  have VA : Hid (∀ u, XB bt W u → Calls Tryz.prog 196 #[roA e.o] u fun e2 w' => e2 = .returned (.bool (At.validO e.o.c)) ∧ Below u.heap.size u w') := Lib.hid (fun u hu => valid_any e.o u (ho1.below (BA.out u hu)) hs.ob hs.obr)
  rw [hro] at VA
  have SA : Hid (∀ u, XB bt W u → Calls Tryz.prog 197 #[evA (bareV e), evA e] u fun e2 w' => e2 = .returned (.bool (sameE (bareV e).c e.c)) ∧ Below u.heap.size u w') := Lib.hid (fun u hu => esame_any (bareV e) e u ((bare_is h).below (BA.out u hu)) (h.below (BA.out u hu)) (bare_sz hs) hs)
  rw [hv] at SA ⊢
  have R1 := Lib.hid r1
  have NA := names1L e.id W hs.id
  clear r1 h ho1 hv hro HZ
  go_enter Tryz.func173, Tryz.ntmps173
  go_upto_region 2 with fail
  rw [← hW]
  try rw [hbt]
  have SW : XB bt W W := But.refl _ _
  have NH := Lib.hid NA
  clear hW NA
  go_wp2_with fail
  refine NH.out.mono ?_
  rintro en u1 ⟨rfl, d1⟩
  have d2 := ((Below.refl W.heap.size W).alloc (Nat.le_refl _) (.cells #[.string (mkB e.id)] 9)).trans (d1.mono (by simp))
  have E := Lib.hid (XB.keep SW E.out d2)
  have S1 := Lib.hid (XB.call SW d2)
  have hH := S1.out
  obtain ⟨nb, hnb⟩ : ∃ nb, At.nameB e.id = nb := ⟨_, rfl⟩
  have hnb' : At.nameB e.c.id = nb := hnb
  rw [hnb]
  have NB := Lib.hid hnb'
  clear d1 d2 SW NH hnb hnb'
  have HB : Hid (evA (bareV e) = .agg #[.int .i64 e.op, .string (mkB e.id), .string ⟨#[]⟩, .string ⟨#[]⟩, .int .i64 0, .int .i64 0, .string ⟨#[]⟩, .string ⟨#[]⟩, .slice none 0 0, .string ⟨#[]⟩, .int .i64 0, .int .i64 0, .int .i64 0, .slice none 0 0, .slice none 0 0]) := Lib.hid (by unfold bareV; rw [if_neg G1.out, if_neg G2.out, if_neg G3.out, if_neg G4.out, if_pos G5.out]; unfold evA evL; rfl)
  rw [HB.out] at SA
  have OK : Hid (okE e.c = nb) := Lib.hid (by unfold okE; rw [if_neg (show ¬ e.c.op = 1 from G1.out), if_neg (show ¬ e.c.op = 2 from G2.out), if_neg (show ¬ e.c.op = 3 from G3.out), if_neg (show ¬ e.c.op = 4 from G4.out), if_pos (show e.c.op = 5 from G5.out), NB.out])
  have hHeld := S1.out
  cases nb
  · skip
    have PF : Hid ((okE e.c && sameE (bareV e).c e.c) = false) := Lib.hid (by rw [OK.out]; rfl)
    have XF := Lib.hid (BA.out _ hHeld)
    go_wp2_with fail
    go_ret
    exact ⟨by rw [PF.out]; rfl, XF.out⟩
  · skip
    have PF : Hid ((okE e.c && sameE (bareV e).c e.c) = sameE (bareV e).c e.c) := Lib.hid (by rw [OK.out]; rfl)
    have t0 := cell_of_row _ bt 0 _ _ _ E.out
    have t1 := cell_of_row _ bt 1 _ _ _ E.out
    have t2 := cell_of_row _ bt 2 _ _ _ E.out
    have t3 := cell_of_row _ bt 3 _ _ _ E.out
    have t4 := cell_of_row _ bt 4 _ _ _ E.out
    have t5 := cell_of_row _ bt 5 _ _ _ E.out
    have t6 := cell_of_row _ bt 6 _ _ _ E.out
    have t7 := cell_of_row _ bt 7 _ _ _ E.out
    have t8 := cell_of_row _ bt 8 _ _ _ E.out
    have t9 := cell_of_row _ bt 9 _ _ _ E.out
    have t10 := cell_of_row _ bt 10 _ _ _ E.out
    have t11 := cell_of_row _ bt 11 _ _ _ E.out
    have t12 := cell_of_row _ bt 12 _ _ _ E.out
    have t13 := cell_of_row _ bt 13 _ _ _ E.out
    have t14 := cell_of_row _ bt 14 _ _ _ E.out
    simp at t0 t1 t2 t3 t4 t5 t6 t7 t8 t9 t10 t11 t12 t13 t14
    have HH := Lib.hid hHeld
    have XX := Lib.hid (BA.out _ hHeld)
    go_wp2_with fail
    have SS := SA.out _ HH.out
    (with_reducible refine SS.mono ?_)
    clear SS
    rintro en u16 ⟨rfl, d16⟩
    have DD := Lib.hid (XX.out.trans (d16.mono XX.out.size))
    clear d16
    go_wp2_with fail
    go_ret
    exact ⟨by rw [PF.out]; rfl, DD.out⟩
end Go.Proofs.YtniklmikdkjgiaaGreatDoor
