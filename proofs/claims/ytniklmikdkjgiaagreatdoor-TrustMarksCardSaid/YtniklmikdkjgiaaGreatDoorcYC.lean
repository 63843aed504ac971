import Derived.Test.YtniklmikdkjgiaaGreatDoorcXF
import Derived.Test.YtniklmikdkjgiaaGreatDoorWD
set_option linter.all false
set_option maxHeartbeats 16000000
set_option maxRecDepth 100000
namespace Go.Proofs.YtniklmikdkjgiaaGreatDoor
open Go.RowKit
theorem evalid_4 (e : EV) (w : World) (h : EvIs w e) (hs : EdSz e.c) (hop : e.op = 4) :
    Calls Tryz.prog 173 #[evA e] w fun en w' => en = .returned (.bool (okE e.c && sameE (bareV e).c e.c)) ∧ Below w.heap.size w w' := by
  have G1 : Hid (¬ e.op = 1) := Lib.hid (by rw [hop]; decide)
  have e1 : (e.op == 1) = false := by simpa using G1.out
  have G2 : Hid (¬ e.op = 2) := Lib.hid (by rw [hop]; decide)
  have e2 : (e.op == 2) = false := by simpa using G2.out
  have G3 : Hid (¬ e.op = 3) := Lib.hid (by rw [hop]; decide)
  have e3 : (e.op == 3) = false := by simpa using G3.out
  have e4 : (e.op == 4) = true := by rw [hop]; rfl
  have G4 := Lib.hid hop
  clear hop
  obtain ⟨⟨A1, c1, v1, r1⟩, ho1⟩ := id h
  obtain ⟨⟨A3, c3, v3, -⟩, ⟨A4, c4, v4, -⟩⟩ := id ho1
  have hv : evA e = .agg #[.int .i64 e.op, .string (mkB e.id), .string (mkB e.other), .string (mkB e.node), .int .i64 e.x, .int .i64 e.y, .string (mkB e.key), .string (mkB e.value), .slice A1 e.refs.length c1, .string (mkB e.o.c.id), .int .i64 e.o.c.kind, .int .i64 e.o.c.x, .int .i64 e.o.c.y, .slice A3 e.o.c.refs.length c3, .slice A4 e.o.c.tags.length c4] := by unfold evA evL; rw [v1, v3, v4]
  have hro : roA e.o = .agg #[.string (mkB e.o.c.id), .int .i64 e.o.c.kind, .int .i64 e.o.c.x, .int .i64 e.o.c.y, .slice A3 e.o.c.refs.length c3, .slice A4 e.o.c.tags.length c4] := by unfold roA; rw [v3, v4]
  obtain ⟨bt, hbt⟩ : ∃ bt, w.heap.size + 1 = bt := ⟨_, rfl⟩
  obtain ⟨W, hW⟩ : ∃ W, W = (w.alloc (.cells #[.int .i64 e.op, .string (mkB e.id), .string (mkB e.other), .string (mkB e.node), .int .i64 e.x, .int .i64 e.y, .string (mkB e.key), .string (mkB e.value), .slice A1 e.refs.length c1, .string (mkB e.o.c.id), .int .i64 e.o.c.kind, .int .i64 e.o.c.x, .int .i64 e.o.c.y, .slice A3 e.o.c.refs.length c3, .slice A4 e.o.c.tags.length c4] 93)).alloc (.cells #[.int .i64 e.op, .string (mkB e.id), .string ⟨#[]⟩, .string ⟨#[]⟩, .int .i64 0, .int .i64 0, .string ⟨#[]⟩, .string ⟨#[]⟩, .slice none 0 0, .string ⟨#[]⟩, .int .i64 0, .int .i64 0, .int .i64 0, .slice none 0 0, .slice none 0 0] 93) := ⟨_, rfl⟩
  have HX : Hid (W.heap[w.heap.size]? = some (.cells #[.int .i64 e.op, .string (mkB e.id), .string (mkB e.other), .string (mkB e.node), .int .i64 e.x, .int .i64 e.y, .string (mkB e.key), .string (mkB e.value), .slice A1 e.refs.length c1, .string (mkB e.o.c.id), .int .i64 e.o.c.kind, .int .i64 e.o.c.x, .int .i64 e.o.c.y, .slice A3 e.o.c.refs.length c3, .slice A4 e.o.c.tags.length c4] 93 (0, 0))) := Lib.hid (by rw [hW]; exact (alloc_old _ _ (by simp)).trans (heap_alloc_new w _))
  have E : Hid (W.heap[bt]? = some (.cells #[.int .i64 e.op, .string (mkB e.id), .string ⟨#[]⟩, .string ⟨#[]⟩, .int .i64 0, .int .i64 0, .string ⟨#[]⟩, .string ⟨#[]⟩, .slice none 0 0, .string ⟨#[]⟩, .int .i64 0, .int .i64 0, .int .i64 0, .slice none 0 0, .slice none 0 0] 93 (0, 0))) := Lib.hid (by rw [hW, ← hbt]; exact alloc_new' _ _ _ (by simp))
  have HZ : W.heap.size = w.heap.size + 2 := by rw [hW]; simp
  have BH : Hid (Below w.heap.size w W) := Lib.hid (by rw [hW]; exact ((Below.refl _ _).alloc (Nat.le_refl _) _).alloc (by simp) _)
  have BA : Hid (∀ u, XB bt W u → Below w.heap.size w u) := Lib.hid (fun u hu => BH.out.trans (But.below hu (by omega) (by intro k hk; omega)))
  have kx : ∀ (i : Nat) v, (#[.int .i64 e.op, .string (mkB e.id), .string (mkB e.other), .string (mkB e.node), .int .i64 e.x, .int .i64 e.y, .string (mkB e.key), .string (mkB e.value), .slice A1 e.refs.length c1, .string (mkB e.o.c.id), .int .i64 e.o.c.kind, .int .i64 e.o.c.x, .int .i64 e.o.c.y, .slice A3 e.o.c.refs.length c3, .slice A4 e.o.c.tags.length c4] : Array Value)[i]? = some v → ∀ u, XB bt W u → u.cell? ⟨w.heap.size, i, none⟩ = some v := fun i v hv u hu => by
    rw [Lib.cell_of_heap ((But.block hu w.heap.size (by omega) (by omega)).trans HX.out)]; exact hv
  have k0 := kx 0 _ rfl
  have k1 := kx 1 _ rfl
  have k2 := kx 2 _ rfl
  have k3 := kx 3 _ rfl
  have k4 := kx 4 _ rfl
  have k5 := kx 5 _ rfl
  have k6 := kx 6 _ rfl
  have k7 := kx 7 _ rfl
  have k8 := kx 8 _ rfl
  have k9 := kx 9 _ rfl
  have k10 := kx 10 _ rfl
  have k11 := kx 11 _ rfl
  have k12 := kx 12 _ rfl
  have k13 := kx 13 _ rfl
  have k14 := kx 14 _ rfl
  clear kx
  have VA : Hid (∀ u, XB bt W u → Calls Tryz.prog 196 #[roA e.o] u fun e2 w' => e2 = .returned (.bool (At.validO e.o.c)) ∧ Below u.heap.size u w') := Lib.hid (fun u hu => valid_any e.o u (ho1.below (BA.out u hu)) hs.ob hs.obr)
  rw [hro] at VA
  have SA : Hid (∀ u, XB bt W u → Calls Tryz.prog 197 #[evA (bareV e), evA e] u fun e2 w' => e2 = .returned (.bool (sameE (bareV e).c e.c)) ∧ Below u.heap.size u w') := Lib.hid (fun u hu => esame_any (bareV e) e u ((bare_is h).below (BA.out u hu)) (h.below (BA.out u hu)) (bare_sz hs) hs)
  rw [hv] at SA ⊢
  have R1 := Lib.hid r1
  have NA := names1L e.id W hs.id
  clear r1 h ho1 hv hro HZ
  go_enter Tryz.func173, Tryz.ntmps173
  go_upto_region 2 with fail
  rw [← hW]
  try rw [hbt]
  have SW : XB bt W W := But.refl _ _
  have NH := Lib.hid NA
  clear hW NA
  go_wp2_with fail
  refine NH.out.mono ?_
  rintro en u1 ⟨rfl, d1⟩
  have d2 := ((Below.refl W.heap.size W).alloc (Nat.le_refl _) (.cells #[.string (mkB e.id)] 9)).trans (d1.mono (by simp))
  have E := Lib.hid (XB.keep SW E.out d2)
  have S1 := Lib.hid (XB.call SW d2)
  have hH := S1.out
  obtain ⟨nb, hnb⟩ : ∃ nb, At.nameB e.id = nb := ⟨_, rfl⟩
  have hnb' : At.nameB e.c.id = nb := hnb
  rw [hnb]
  have NB := Lib.hid hnb'
  clear d1 d2 SW NH hnb hnb'
  have HB : Hid (evA (bareV e) = .agg #[.int .i64 e.op, .string (mkB e.id), .string ⟨#[]⟩, .string ⟨#[]⟩, .int .i64 0, .int .i64 0, .string ⟨#[]⟩, .string ⟨#[]⟩, .slice A1 e.refs.length c1, .string ⟨#[]⟩, .int .i64 0, .int .i64 0, .int .i64 0, .slice none 0 0, .slice none 0 0]) := Lib.hid (by unfold bareV; rw [if_neg G1.out, if_neg G2.out, if_neg G3.out, if_pos G4.out]; unfold evA evL; rw [v1]; rfl)
  rw [HB.out] at SA
  have OK : Hid (okE e.c = (nb && decide (0 < e.refs.length) && decide (e.refs.length ≤ 2000) && e.refs.all At.nameB)) := Lib.hid (by unfold okE; rw [if_neg (show ¬ e.c.op = 1 from G1.out), if_neg (show ¬ e.c.op = 2 from G2.out), if_neg (show ¬ e.c.op = 3 from G3.out), if_pos (show e.c.op = 4 from G4.out), NB.out]; rfl)
  have NR : Hid (∀ u, XB bt W u → Calls Tryz.prog 195 #[.slice A1 e.refs.length c1] u fun e2 w' => e2 = .returned (.bool (e.refs.all At.nameB)) ∧ Below u.heap.size u w') := Lib.hid (fun u hu => names_any A1 _ c1 e.refs u rfl hs.refs hs.ref (R1.out.below (BA.out u hu)))
  generalize e.refs.all At.nameB = ra at *
  cases nb
  · skip
    go_upto_region 12 with fail
    (refine wp_region_noPanic ?_; refine wp_region_held_drew (S := (XB bt W)) (by kernel_rfl) ?_ (fun hHeld => ?_); exact XB.drew S1.out)
    clear hH
    have E := Lib.hid (XB.same hHeld E.out)
    generalize u1.drew = ud at *
    (refine tkW 0 ?_; try simp only [gmS])
    (refine tkW 1 ?_; try simp only [gmS])
    (refine tkW 2 ?_; try simp only [gmS])
    (refine tkW 3 ?_; try simp only [gmS])
    (refine tkW 20 ?_; try simp only [gmS])
    (refine skW 4 ?_; try simp only [gmS])
    (refine skW 5 ?_; try simp only [gmS])
    (refine skW 6 ?_; try simp only [gmS])
    (refine skW 7 ?_; try simp only [gmS])
    (refine tkW 8 ?_; try simp only [gmS])
    (refine tkW 9 ?_; try simp only [gmS])
    (refine skW 10 ?_; try simp only [gmS])
    (refine skW 11 ?_; try simp only [gmS])
    (refine skW 12 ?_; try simp only [gmS])
    (refine skW 13 ?_; try simp only [gmS])
    (refine tkW 14 ?_; try simp only [gmS])
    (refine tkW 15 ?_; try simp only [gmS])
    (refine skW 16 ?_; try simp only [gmS])
    (refine skW 17 ?_; try simp only [gmS])
    (refine skW 18 ?_; try simp only [gmS])
    (refine tkW 19 ?_; try simp only [gmS])
    have t8 := cell_of_row _ bt 8 _ _ _ E.out
    simp at t8
    have f8 := free_blk E.out 8
    (refine rdW 21 (fun K hK => ?_))
    go_simp
    have E := Lib.hid (row_put8 (g := bt) (k := 8) (E.out) (.slice A1 e.refs.length c1))
    (refine hK.out _ _ (XB.set (hHeld) 8 (.slice A1 e.refs.length c1)) (fun hHeld2 => ?_); clear hK K hHeld; have hHeld := hHeld2; clear hHeld2; try simp only [gmS])
    clear t8 f8
    (refine tkW 22 ?_; try simp only [gmS])
    (refine wpAnyH_done (by kernel_rfl) ?_ _; refine NoPanic.normal ?_)
    have PF : Hid ((okE e.c && sameE (bareV e).c e.c) = false) := Lib.hid (by rw [OK.out]; rfl)
    have XF := Lib.hid (BA.out _ hHeld)
    go_wp2_with fail
    go_ret
    exact ⟨by rw [PF.out]; rfl, XF.out⟩
  · skip
    rw [Bool.true_and] at OK
    cases hm : decide (0 < e.refs.length)
    · rw [hm] at OK
      have hm2 : decide ((0 : Int) < (e.refs.length : Int)) = false := by simp at hm ⊢; omega
      go_upto_region 12 with fail
      (refine wp_region_noPanic ?_; refine wp_region_held_drew (S := (XB bt W)) (by kernel_rfl) ?_ (fun hHeld => ?_); exact XB.drew S1.out)
      clear hH
      have E := Lib.hid (XB.same hHeld E.out)
      generalize u1.drew = ud at *
      (refine tkW 0 ?_; try simp only [gmS])
      (refine tkW 1 ?_; try simp only [gmS])
      (refine tkW 2 ?_; try simp only [gmS])
      (refine tkW 3 ?_; try simp only [gmS])
      (refine tkW 4 ?_; try simp only [gmS])
      (refine tkW 5 ?_; try simp only [gmS])
      (refine tkW 6 ?_; try simp only [gmS])
      (refine tkW 20 ?_; try simp only [gmS])
      (refine tkW 7 (v := .bool false) ?_; try simp only [gmS])
      (refine tkW 8 ?_; try simp only [gmS])
      (refine tkW 9 ?_; try simp only [gmS])
      (refine skW 10 ?_; try simp only [gmS])
      (refine skW 11 ?_; try simp only [gmS])
      (refine skW 12 ?_; try simp only [gmS])
      (refine skW 13 ?_; try simp only [gmS])
      (refine tkW 14 ?_; try simp only [gmS])
      (refine tkW 15 ?_; try simp only [gmS])
      (refine skW 16 ?_; try simp only [gmS])
      (refine skW 17 ?_; try simp only [gmS])
      (refine skW 18 ?_; try simp only [gmS])
      (refine tkW 19 ?_; try simp only [gmS])
      have t8 := cell_of_row _ bt 8 _ _ _ E.out
      simp at t8
      have f8 := free_blk E.out 8
      (refine rdW 21 (fun K hK => ?_))
      go_simp
      have E := Lib.hid (row_put8 (g := bt) (k := 8) (E.out) (.slice A1 e.refs.length c1))
      (refine hK.out _ _ (XB.set (hHeld) 8 (.slice A1 e.refs.length c1)) (fun hHeld2 => ?_); clear hK K hHeld; have hHeld := hHeld2; clear hHeld2; try simp only [gmS])
      clear t8 f8
      (refine tkW 22 ?_; try simp only [gmS])
      (refine wpAnyH_done (by kernel_rfl) ?_ _; refine NoPanic.normal ?_)
      have PF : Hid ((okE e.c && sameE (bareV e).c e.c) = false) := Lib.hid (by rw [OK.out]; rfl)
      have XF := Lib.hid (BA.out _ hHeld)
      go_wp2_with fail
      go_ret
      exact ⟨by rw [PF.out]; rfl, XF.out⟩
    · rw [hm, Bool.true_and] at OK
      have hm2 : decide ((0 : Int) < (e.refs.length : Int)) = true := by simp at hm ⊢; omega
      cases hx : decide (e.refs.length ≤ 2000)
      · rw [hx] at OK
        have hx2 : decide ((e.refs.length : Int) ≤ 2000) = false := by simp at hx ⊢; omega
        go_upto_region 12 with fail
        (refine wp_region_noPanic ?_; refine wp_region_held_drew (S := (XB bt W)) (by kernel_rfl) ?_ (fun hHeld => ?_); exact XB.drew S1.out)
        clear hH
        have E := Lib.hid (XB.same hHeld E.out)
        generalize u1.drew = ud at *
        (refine tkW 0 ?_; try simp only [gmS])
        (refine tkW 1 ?_; try simp only [gmS])
        (refine tkW 2 ?_; try simp only [gmS])
        (refine tkW 3 ?_; try simp only [gmS])
        (refine tkW 4 ?_; try simp only [gmS])
        (refine tkW 5 ?_; try simp only [gmS])
        (refine tkW 6 ?_; try simp only [gmS])
        (refine tkW 20 ?_; try simp only [gmS])
        (refine tkW 7 (v := .bool true) ?_; try simp only [gmS])
        (refine tkW 8 ?_; try simp only [gmS])
        (refine tkW 9 ?_; try simp only [gmS])
        (refine tkW 10 ?_; try simp only [gmS])
        (refine tkW 11 ?_; try simp only [gmS])
        (refine tkW 12 ?_; try simp only [gmS])
        (refine tkW 13 (v := .bool false) ?_; try simp only [gmS])
        (refine tkW 14 ?_; try simp only [gmS])
        (refine tkW 15 ?_; try simp only [gmS])
        (refine skW 16 ?_; try simp only [gmS])
        (refine skW 17 ?_; try simp only [gmS])
        (refine skW 18 ?_; try simp only [gmS])
        (refine tkW 19 ?_; try simp only [gmS])
        have t8 := cell_of_row _ bt 8 _ _ _ E.out
        simp at t8
        have f8 := free_blk E.out 8
        (refine rdW 21 (fun K hK => ?_))
        go_simp
        have E := Lib.hid (row_put8 (g := bt) (k := 8) (E.out) (.slice A1 e.refs.length c1))
        (refine hK.out _ _ (XB.set (hHeld) 8 (.slice A1 e.refs.length c1)) (fun hHeld2 => ?_); clear hK K hHeld; have hHeld := hHeld2; clear hHeld2; try simp only [gmS])
        clear t8 f8
        (refine tkW 22 ?_; try simp only [gmS])
        (refine wpAnyH_done (by kernel_rfl) ?_ _; refine NoPanic.normal ?_)
        have PF : Hid ((okE e.c && sameE (bareV e).c e.c) = false) := Lib.hid (by rw [OK.out]; rfl)
        have XF := Lib.hid (BA.out _ hHeld)
        go_wp2_with fail
        go_ret
        exact ⟨by rw [PF.out]; rfl, XF.out⟩
      · rw [hx, Bool.true_and] at OK
        have hx2 : decide ((e.refs.length : Int) ≤ 2000) = true := by simp at hx ⊢; omega
        cases ra
        · skip
          go_upto_region 12 with fail
          (refine wp_region_noPanic ?_; refine wp_region_held_drew (S := (XB bt W)) (by kernel_rfl) ?_ (fun hHeld => ?_); exact XB.drew S1.out)
          clear hH
          have E := Lib.hid (XB.same hHeld E.out)
          generalize u1.drew = ud at *
          (refine tkW 0 ?_; try simp only [gmS])
          (refine tkW 1 ?_; try simp only [gmS])
          (refine tkW 2 ?_; try simp only [gmS])
          (refine tkW 3 ?_; try simp only [gmS])
          (refine tkW 4 ?_; try simp only [gmS])
          (refine tkW 5 ?_; try simp only [gmS])
          (refine tkW 6 ?_; try simp only [gmS])
          (refine tkW 20 ?_; try simp only [gmS])
          (refine tkW 7 (v := .bool true) ?_; try simp only [gmS])
          (refine tkW 8 ?_; try simp only [gmS])
          (refine tkW 9 ?_; try simp only [gmS])
          (refine tkW 10 ?_; try simp only [gmS])
          (refine tkW 11 ?_; try simp only [gmS])
          (refine tkW 12 ?_; try simp only [gmS])
          (refine tkW 13 (v := .bool true) ?_; try simp only [gmS])
          (refine tkW 14 ?_; try simp only [gmS])
          (refine tkW 15 ?_; try simp only [gmS])
          (refine tkW 16 ?_; try simp only [gmS])
          (refine tkW 17 ?_; try simp only [gmS])
          (refine rdW 18 (fun K hK => ?_))
          go_simp
          refine (NR.out _ hHeld).mono ?_
          rintro en u12 ⟨rfl, d12⟩
          have E := Lib.hid (XB.keep hHeld E.out d12)
          (refine hK.out _ _ (XB.call hHeld d12) (fun hHeld2 => ?_); clear hK K hHeld; have hHeld := hHeld2; clear hHeld2; try simp only [gmS])
          (refine tkW 19 ?_; try simp only [gmS])
          have t8 := cell_of_row _ bt 8 _ _ _ E.out
          simp at t8
          have f8 := free_blk E.out 8
          (refine rdW 21 (fun K hK => ?_))
          go_simp
          have E := Lib.hid (row_put8 (g := bt) (k := 8) (E.out) (.slice A1 e.refs.length c1))
          (refine hK.out _ _ (XB.set (hHeld) 8 (.slice A1 e.refs.length c1)) (fun hHeld2 => ?_); clear hK K hHeld; have hHeld := hHeld2; clear hHeld2; try simp only [gmS])
          clear t8 f8
          (refine tkW 22 ?_; try simp only [gmS])
          (refine wpAnyH_done (by kernel_rfl) ?_ _; refine NoPanic.normal ?_)
          have PF : Hid ((okE e.c && sameE (bareV e).c e.c) = false) := Lib.hid (by rw [OK.out]; rfl)
          have XF := Lib.hid (BA.out _ hHeld)
          go_wp2_with fail
          go_ret
          exact ⟨by rw [PF.out]; rfl, XF.out⟩
        · skip
          go_upto_region 12 with fail
          (refine wp_region_noPanic ?_; refine wp_region_held_drew (S := (XB bt W)) (by kernel_rfl) ?_ (fun hHeld => ?_); exact XB.drew S1.out)
          clear hH
          have E := Lib.hid (XB.same hHeld E.out)
          generalize u1.drew = ud at *
          (refine tkW 0 ?_; try simp only [gmS])
          (refine tkW 1 ?_; try simp only [gmS])
          (refine tkW 2 ?_; try simp only [gmS])
          (refine tkW 3 ?_; try simp only [gmS])
          (refine tkW 4 ?_; try simp only [gmS])
          (refine tkW 5 ?_; try simp only [gmS])
          (refine tkW 6 ?_; try simp only [gmS])
          (refine tkW 20 ?_; try simp only [gmS])
          (refine tkW 7 (v := .bool true) ?_; try simp only [gmS])
          (refine tkW 8 ?_; try simp only [gmS])
          (refine tkW 9 ?_; try simp only [gmS])
          (refine tkW 10 ?_; try simp only [gmS])
          (refine tkW 11 ?_; try simp only [gmS])
          (refine tkW 12 ?_; try simp only [gmS])
          (refine tkW 13 (v := .bool true) ?_; try simp only [gmS])
          (refine tkW 14 ?_; try simp only [gmS])
          (refine tkW 15 ?_; try simp only [gmS])
          (refine tkW 16 ?_; try simp only [gmS])
          (refine tkW 17 ?_; try simp only [gmS])
          (refine rdW 18 (fun K hK => ?_))
          go_simp
          refine (NR.out _ hHeld).mono ?_
          rintro en u13 ⟨rfl, d13⟩
          have E := Lib.hid (XB.keep hHeld E.out d13)
          (refine hK.out _ _ (XB.call hHeld d13) (fun hHeld2 => ?_); clear hK K hHeld; have hHeld := hHeld2; clear hHeld2; try simp only [gmS])
          (refine tkW 19 ?_; try simp only [gmS])
          have t8 := cell_of_row _ bt 8 _ _ _ E.out
          simp at t8
          have f8 := free_blk E.out 8
          (refine rdW 21 (fun K hK => ?_))
          go_simp
          have E := Lib.hid (row_put8 (g := bt) (k := 8) (E.out) (.slice A1 e.refs.length c1))
          (refine hK.out _ _ (XB.set (hHeld) 8 (.slice A1 e.refs.length c1)) (fun hHeld2 => ?_); clear hK K hHeld; have hHeld := hHeld2; clear hHeld2; try simp only [gmS])
          clear t8 f8
          (refine tkW 22 ?_; try simp only [gmS])
          (refine wpAnyH_done (by kernel_rfl) ?_ _; refine NoPanic.normal ?_)
          have PF : Hid ((okE e.c && sameE (bareV e).c e.c) = sameE (bareV e).c e.c) := Lib.hid (by rw [OK.out]; rfl)
          have t0 := cell_of_row _ bt 0 _ _ _ E.out
          have t1 := cell_of_row _ bt 1 _ _ _ E.out
          have t2 := cell_of_row _ bt 2 _ _ _ E.out
          have t3 := cell_of_row _ bt 3 _ _ _ E.out
          have t4 := cell_of_row _ bt 4 _ _ _ E.out
          have t5 := cell_of_row _ bt 5 _ _ _ E.out
          have t6 := cell_of_row _ bt 6 _ _ _ E.out
          have t7 := cell_of_row _ bt 7 _ _ _ E.out
          have t8 := cell_of_row _ bt 8 _ _ _ E.out
          have t9 := cell_of_row _ bt 9 _ _ _ E.out
          have t10 := cell_of_row _ bt 10 _ _ _ E.out
          have t11 := cell_of_row _ bt 11 _ _ _ E.out
          have t12 := cell_of_row _ bt 12 _ _ _ E.out
          have t13 := cell_of_row _ bt 13 _ _ _ E.out
          have t14 := cell_of_row _ bt 14 _ _ _ E.out
          simp at t0 t1 t2 t3 t4 t5 t6 t7 t8 t9 t10 t11 t12 t13 t14
          have HH := Lib.hid hHeld
          have XX := Lib.hid (BA.out _ hHeld)
          go_wp2_with fail
          have SS := SA.out _ HH.out
          (with_reducible refine SS.mono ?_)
          clear SS
          rintro en u14 ⟨rfl, d14⟩
          have DD := Lib.hid (XX.out.trans (d14.mono XX.out.size))
          clear d14
          go_wp2_with fail
          go_ret
          exact ⟨by rw [PF.out]; rfl, DD.out⟩
theorem evalid_7 (e : EV) (w : World) (h : EvIs w e) (hs : EdSz e.c) (hop : e.op = 7) :
    Calls Tryz.prog 173 #[evA e] w fun en w' => en = .returned (.bool (okE e.c && sameE (bareV e).c e.c)) ∧ Below w.heap.size w w' := by
  have G1 : Hid (¬ e.op = 1) := Lib.hid (by rw [hop]; decide)
  have e1 : (e.op == 1) = false := by simpa using G1.out
  have G2 : Hid (¬ e.op = 2) := Lib.hid (by rw [hop]; decide)
  have e2 : (e.op == 2) = false := by simpa using G2.out
  have G3 : Hid (¬ e.op = 3) := Lib.hid (by rw [hop]; decide)
  have e3 : (e.op == 3) = false := by simpa using G3.out
  have G4 : Hid (¬ e.op = 4) := Lib.hid (by rw [hop]; decide)
  have e4 : (e.op == 4) = false := by simpa using G4.out
  have G5 : Hid (¬ e.op = 5) := Lib.hid (by rw [hop]; decide)
  have e5 : (e.op == 5) = false := by simpa using G5.out
  have G6 : Hid (¬ e.op = 6) := Lib.hid (by rw [hop]; decide)
  have e6 : (e.op == 6) = false := by simpa using G6.out
  have e7 : (e.op == 7) = true := by rw [hop]; rfl
  have G7 := Lib.hid hop
  clear hop
  obtain ⟨⟨A1, c1, v1, r1⟩, ho1⟩ := id h
  obtain ⟨⟨A3, c3, v3, -⟩, ⟨A4, c4, v4, -⟩⟩ := id ho1
  have hv : evA e = .agg #[.int .i64 e.op, .string (mkB e.id), .string (mkB e.other), .string (mkB e.node), .int .i64 e.x, .int .i64 e.y, .string (mkB e.key), .string (mkB e.value), .slice A1 e.refs.length c1, .string (mkB e.o.c.id), .int .i64 e.o.c.kind, .int .i64 e.o.c.x, .int .i64 e.o.c.y, .slice A3 e.o.c.refs.length c3, .slice A4 e.o.c.tags.length c4] := by unfold evA evL; rw [v1, v3, v4]
  have hro : roA e.o = .agg #[.string (mkB e.o.c.id), .int .i64 e.o.c.kind, .int .i64 e.o.c.x, .int .i64 e.o.c.y, .slice A3 e.o.c.refs.length c3, .slice A4 e.o.c.tags.length c4] := by unfold roA; rw [v3, v4]
  obtain ⟨bt, hbt⟩ : ∃ bt, w.heap.size + 1 = bt := ⟨_, rfl⟩
  obtain ⟨W, hW⟩ : ∃ W, W = (w.alloc (.cells #[.int .i64 e.op, .string (mkB e.id), .string (mkB e.other), .string (mkB e.node), .int .i64 e.x, .int .i64 e.y, .string (mkB e.key), .string (mkB e.value), .slice A1 e.refs.length c1, .string (mkB e.o.c.id), .int .i64 e.o.c.kind, .int .i64 e.o.c.x, .int .i64 e.o.c.y, .slice A3 e.o.c.refs.length c3, .slice A4 e.o.c.tags.length c4] 93)).alloc (.cells #[.int .i64 e.op, .string (mkB e.id), .string ⟨#[]⟩, .string ⟨#[]⟩, .int .i64 0, .int .i64 0, .string ⟨#[]⟩, .string ⟨#[]⟩, .slice none 0 0, .string ⟨#[]⟩, .int .i64 0, .int .i64 0, .int .i64 0, .slice none 0 0, .slice none 0 0] 93) := ⟨_, rfl⟩
  have HX : Hid (W.heap[w.heap.size]? = some (.cells #[.int .i64 e.op, .string (mkB e.id), .string (mkB e.other), .string (mkB e.node), .int .i64 e.x, .int .i64 e.y, .string (mkB e.key), .string (mkB e.value), .slice A1 e.refs.length c1, .string (mkB e.o.c.id), .int .i64 e.o.c.kind, .int .i64 e.o.c.x, .int .i64 e.o.c.y, .slice A3 e.o.c.refs.length c3, .slice A4 e.o.c.tags.length c4] 93 (0, 0))) := Lib.hid (by rw [hW]; exact (alloc_old _ _ (by simp)).trans (heap_alloc_new w _))
  have E : Hid (W.heap[bt]? = some (.cells #[.int .i64 e.op, .string (mkB e.id), .string ⟨#[]⟩, .string ⟨#[]⟩, .int .i64 0, .int .i64 0, .string ⟨#[]⟩, .string ⟨#[]⟩, .slice none 0 0, .string ⟨#[]⟩, .int .i64 0, .int .i64 0, .int .i64 0, .slice none 0 0, .slice none 0 0] 93 (0, 0))) := Lib.hid (by rw [hW, ← hbt]; exact alloc_new' _ _ _ (by simp))
  have HZ : W.heap.size = w.heap.size + 2 := by rw [hW]; simp
  have BH : Hid (Below w.heap.size w W) := Lib.hid (by rw [hW]; exact ((Below.refl _ _).alloc (Nat.le_refl _) _).alloc (by simp) _)
  have BA : Hid (∀ u, XB bt W u → Below w.heap.size w u) := Lib.hid (fun u hu => BH.out.trans (But.below hu (by omega) (by intro k hk; omega)))
  have kx : ∀ (i : Nat) v, (#[.int .i64 e.op, .string (mkB e.id), .string (mkB e.other), .string (mkB e.node), .int .i64 e.x, .int .i64 e.y, .string (mkB e.key), .string (mkB e.value), .slice A1 e.refs.length c1, .string (mkB e.o.c.id), .int .i64 e.o.c.kind, .int .i64 e.o.c.x, .int .i64 e.o.c.y, .slice A3 e.o.c.refs.length c3, .slice A4 e.o.c.tags.length c4] : Array Value)[i]? = some v → ∀ u, XB bt W u → u.cell? ⟨w.heap.size, i, none⟩ = some v := fun i v hv u hu => by
    rw [Lib.cell_of_heap ((But.block hu w.heap.size (by omega) (by omega)).trans HX.out)]; exact hv
  have k0 := kx 0 _ rfl
  have k1 := kx 1 _ rfl
  have k2 := kx 2 _ rfl
  have k3 := kx 3 _ rfl
  have k4 := kx 4 _ rfl
  have k5 := kx 5 _ rfl
  have k6 := kx 6 _ rfl
  have k7 := kx 7 _ rfl
  have k8 := kx 8 _ rfl
  have k9 := kx 9 _ rfl
  have k10 := kx 10 _ rfl
  have k11 := kx 11 _ rfl
  have k12 := kx 12 _ rfl
  have k13 := kx 13 _ rfl
  have k14 := kx 14 _ rfl
  clear kx
  have VA : Hid (∀ u, XB bt W u → Calls Tryz.prog 196 #[roA e.o] u fun e2 w' => e2 = .returned (.bool (At.validO e.o.c)) ∧ Below u.heap.size u w') := Lib.hid (fun u hu => valid_any e.o u (ho1.below (BA.out u hu)) hs.ob hs.obr)
  rw [hro] at VA
  have SA : Hid (∀ u, XB bt W u → Calls Tryz.prog 197 #[evA (bareV e), evA e] u fun e2 w' => e2 = .returned (.bool (sameE (bareV e).c e.c)) ∧ Below u.heap.size u w') := Lib.hid (fun u hu => esame_any (bareV e) e u ((bare_is h).below (BA.out u hu)) (h.below (BA.out u hu)) (bare_sz hs) hs)
  rw [hv] at SA ⊢
  have R1 := Lib.hid r1
  have NA := names1L e.id W hs.id
  clear r1 h ho1 hv hro HZ
  go_enter Tryz.func173, Tryz.ntmps173
  go_upto_region 2 with fail
  rw [← hW]
  try rw [hbt]
  have SW : XB bt W W := But.refl _ _
  have NH := Lib.hid NA
  clear hW NA
  go_wp2_with fail
  refine NH.out.mono ?_
  rintro en u1 ⟨rfl, d1⟩
  have d2 := ((Below.refl W.heap.size W).alloc (Nat.le_refl _) (.cells #[.string (mkB e.id)] 9)).trans (d1.mono (by simp))
  have E := Lib.hid (XB.keep SW E.out d2)
  have S1 := Lib.hid (XB.call SW d2)
  have hH := S1.out
  obtain ⟨nb, hnb⟩ : ∃ nb, At.nameB e.id = nb := ⟨_, rfl⟩
  have hnb' : At.nameB e.c.id = nb := hnb
  rw [hnb]
  have NB := Lib.hid hnb'
  clear d1 d2 SW NH hnb hnb'
  have HB : Hid (evA (bareV e) = .agg #[.int .i64 e.op, .string (mkB e.id), .string (mkB e.other), .string ⟨#[]⟩, .int .i64 0, .int .i64 0, .string ⟨#[]⟩, .string ⟨#[]⟩, .slice none 0 0, .string ⟨#[]⟩, .int .i64 0, .int .i64 0, .int .i64 0, .slice none 0 0, .slice none 0 0]) := Lib.hid (by unfold bareV; rw [if_neg G1.out, if_neg G2.out, if_neg G3.out, if_neg G4.out, if_neg G5.out, if_neg G6.out]; unfold evA evL; rfl)
  rw [HB.out] at SA
  have OK : Hid (okE e.c = (nb && At.nameB e.other)) := Lib.hid (by unfold okE; rw [if_neg (show ¬ e.c.op = 1 from G1.out), if_neg (show ¬ e.c.op = 2 from G2.out), if_neg (show ¬ e.c.op = 3 from G3.out), if_neg (show ¬ e.c.op = 4 from G4.out), if_neg (show ¬ e.c.op = 5 from G5.out), if_neg (show ¬ e.c.op = 6 from G6.out), if_pos (show e.c.op = 7 from G7.out), NB.out]; rfl)
  have NK := Lib.hid (fun u => names1L e.other u hs.other)
  cases nb
  · skip
    go_upto_region 17 with fail
    (refine wp_region_noPanic ?_; refine wp_region_held_drew (S := (XB bt W)) (by kernel_rfl) ?_ (fun hHeld => ?_); exact XB.drew S1.out)
    clear hH
    have E := Lib.hid (XB.same hHeld E.out)
    generalize u1.drew = ud at *
    (refine tkW 0 ?_; try simp only [gmS])
    (refine tkW 1 ?_; try simp only [gmS])
    (refine tkW 2 ?_; try simp only [gmS])
    (refine tkW 3 ?_; try simp only [gmS])
    (refine tkW 9 ?_; try simp only [gmS])
    (refine skW 4 ?_; try simp only [gmS])
    (refine skW 5 ?_; try simp only [gmS])
    (refine skW 6 ?_; try simp only [gmS])
    (refine skW 7 ?_; try simp only [gmS])
    (refine tkW 8 ?_; try simp only [gmS])
    have t2 := cell_of_row _ bt 2 _ _ _ E.out
    simp at t2
    have f2 := free_blk E.out 2
    (refine rdW 10 (fun K hK => ?_))
    go_simp
    have E := Lib.hid (row_put8 (g := bt) (k := 2) (E.out) (.string (mkB e.other)))
    (refine hK.out _ _ (XB.set (hHeld) 2 (.string (mkB e.other))) (fun hHeld2 => ?_); clear hK K hHeld; have hHeld := hHeld2; clear hHeld2; try simp only [gmS])
    clear t2 f2
    (refine tkW 11 ?_; try simp only [gmS])
    (refine wpAnyH_done (by kernel_rfl) ?_ _; refine NoPanic.normal ?_)
    have PF : Hid ((okE e.c && sameE (bareV e).c e.c) = false) := Lib.hid (by rw [OK.out]; rfl)
    have XF := Lib.hid (BA.out _ hHeld)
    go_wp2_with fail
    go_ret
    exact ⟨by rw [PF.out]; rfl, XF.out⟩
  · rw [Bool.true_and] at OK
    generalize At.nameB e.other = nk at *
    cases nk
    · skip
      go_upto_region 17 with fail
      (refine wp_region_noPanic ?_; refine wp_region_held_drew (S := (XB bt W)) (by kernel_rfl) ?_ (fun hHeld => ?_); exact XB.drew S1.out)
      clear hH
      have E := Lib.hid (XB.same hHeld E.out)
      generalize u1.drew = ud at *
      (refine tkW 0 ?_; try simp only [gmS])
      (refine tkW 1 ?_; try simp only [gmS])
      (refine tkW 2 ?_; try simp only [gmS])
      (refine tkW 3 ?_; try simp only [gmS])
      (refine tkW 4 ?_; try simp only [gmS])
      (refine tkW 5 ?_; try simp only [gmS])
      (refine tkW 9 ?_; try simp only [gmS])
      (refine rdW 6 (fun K hK => ?_))
      go_simp
      have HH := Lib.hid hHeld
      have E0 := Lib.hid E.out
      have E := Lib.hid (XB.keep hHeld E.out ((Below.refl _ _).alloc (Nat.le_refl _) (.cells #[.string (mkB e.other)] 9)))
      (refine hK.out _ _ (XB.call hHeld ((Below.refl _ _).alloc (Nat.le_refl _) _)) (fun hHeld2 => ?_); clear hK K hHeld; have hHeld := hHeld2; clear hHeld2; try simp only [gmS])
      (refine rdW 7 (fun K hK => ?_))
      go_simp
      refine (NK.out _).mono ?_
      rintro en u22 ⟨rfl, d22⟩
      have E := Lib.hid (XB.keep hHeld E.out d22)
      (refine hK.out _ _ (XB.call hHeld d22) (fun hHeld2 => ?_); clear hK K hHeld; have hHeld := hHeld2; clear hHeld2; try simp only [gmS])
      (refine tkW 8 ?_; try simp only [gmS])
      have t2 := cell_of_row _ bt 2 _ _ _ E.out
      simp at t2
      have f2 := free_blk E.out 2
      (refine rdW 10 (fun K hK => ?_))
      go_simp
      have E := Lib.hid (row_put8 (g := bt) (k := 2) (E.out) (.string (mkB e.other)))
      (refine hK.out _ _ (XB.set (hHeld) 2 (.string (mkB e.other))) (fun hHeld2 => ?_); clear hK K hHeld; have hHeld := hHeld2; clear hHeld2; try simp only [gmS])
      clear t2 f2
      (refine tkW 11 ?_; try simp only [gmS])
      (refine wpAnyH_done (by kernel_rfl) ?_ _; refine NoPanic.normal ?_)
      have PF : Hid ((okE e.c && sameE (bareV e).c e.c) = false) := Lib.hid (by rw [OK.out]; rfl)
      have XF := Lib.hid (BA.out _ hHeld)
      go_wp2_with fail
      go_ret
      exact ⟨by rw [PF.out]; rfl, XF.out⟩
    · skip
      go_upto_region 17 with fail
      (refine wp_region_noPanic ?_; refine wp_region_held_drew (S := (XB bt W)) (by kernel_rfl) ?_ (fun hHeld => ?_); exact XB.drew S1.out)
      clear hH
      have E := Lib.hid (XB.same hHeld E.out)
      generalize u1.drew = ud at *
      (refine tkW 0 ?_; try simp only [gmS])
      (refine tkW 1 ?_; try simp only [gmS])
      (refine tkW 2 ?_; try simp only [gmS])
      (refine tkW 3 ?_; try simp only [gmS])
      (refine tkW 4 ?_; try simp only [gmS])
      (refine tkW 5 ?_; try simp only [gmS])
      (refine tkW 9 ?_; try simp only [gmS])
      (refine rdW 6 (fun K hK => ?_))
      go_simp
      have HH := Lib.hid hHeld
      have E0 := Lib.hid E.out
      have E := Lib.hid (XB.keep hHeld E.out ((Below.refl _ _).alloc (Nat.le_refl _) (.cells #[.string (mkB e.other)] 9)))
      (refine hK.out _ _ (XB.call hHeld ((Below.refl _ _).alloc (Nat.le_refl _) _)) (fun hHeld2 => ?_); clear hK K hHeld; have hHeld := hHeld2; clear hHeld2; try simp only [gmS])
      (refine rdW 7 (fun K hK => ?_))
      go_simp
      refine (NK.out _).mono ?_
      rintro en u23 ⟨rfl, d23⟩
      have E := Lib.hid (XB.keep hHeld E.out d23)
      (refine hK.out _ _ (XB.call hHeld d23) (fun hHeld2 => ?_); clear hK K hHeld; have hHeld := hHeld2; clear hHeld2; try simp only [gmS])
      (refine tkW 8 ?_; try simp only [gmS])
      have t2 := cell_of_row _ bt 2 _ _ _ E.out
      simp at t2
      have f2 := free_blk E.out 2
      (refine rdW 10 (fun K hK => ?_))
      go_simp
      have E := Lib.hid (row_put8 (g := bt) (k := 2) (E.out) (.string (mkB e.other)))
      (refine hK.out _ _ (XB.set (hHeld) 2 (.string (mkB e.other))) (fun hHeld2 => ?_); clear hK K hHeld; have hHeld := hHeld2; clear hHeld2; try simp only [gmS])
      clear t2 f2
      (refine tkW 11 ?_; try simp only [gmS])
      (refine wpAnyH_done (by kernel_rfl) ?_ _; refine NoPanic.normal ?_)
      have PF : Hid ((okE e.c && sameE (bareV e).c e.c) = sameE (bareV e).c e.c) := Lib.hid (by rw [OK.out]; rfl)
      have t0 := cell_of_row _ bt 0 _ _ _ E.out
      have t1 := cell_of_row _ bt 1 _ _ _ E.out
      have t2 := cell_of_row _ bt 2 _ _ _ E.out
      have t3 := cell_of_row _ bt 3 _ _ _ E.out
      have t4 := cell_of_row _ bt 4 _ _ _ E.out
      have t5 := cell_of_row _ bt 5 _ _ _ E.out
      have t6 := cell_of_row _ bt 6 _ _ _ E.out
      have t7 := cell_of_row _ bt 7 _ _ _ E.out
      have t8 := cell_of_row _ bt 8 _ _ _ E.out
      have t9 := cell_of_row _ bt 9 _ _ _ E.out
      have t10 := cell_of_row _ bt 10 _ _ _ E.out
      have t11 := cell_of_row _ bt 11 _ _ _ E.out
      have t12 := cell_of_row _ bt 12 _ _ _ E.out
      have t13 := cell_of_row _ bt 13 _ _ _ E.out
      have t14 := cell_of_row _ bt 14 _ _ _ E.out
      simp at t0 t1 t2 t3 t4 t5 t6 t7 t8 t9 t10 t11 t12 t13 t14
      have HH := Lib.hid hHeld
      have XX := Lib.hid (BA.out _ hHeld)
      go_wp2_with fail
      have SS := SA.out _ HH.out
      (with_reducible refine SS.mono ?_)
      clear SS
      rintro en u24 ⟨rfl, d24⟩
      have DD := Lib.hid (XX.out.trans (d24.mono XX.out.size))
      clear d24
      go_wp2_with fail
      go_ret
      exact ⟨by rw [PF.out]; rfl, DD.out⟩
end Go.Proofs.YtniklmikdkjgiaaGreatDoor
