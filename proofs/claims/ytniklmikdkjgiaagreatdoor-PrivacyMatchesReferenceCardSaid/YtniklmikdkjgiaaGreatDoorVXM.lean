import Derived.Test.YtniklmikdkjgiaaGreatDoorCLD
import Derived.Test.YtniklmikdkjgiaaGreatDoorVXI
import Derived.Test.YtniklmikdkjgiaaGreatDoorWD
set_option linter.all false
set_option maxHeartbeats 16000000
set_option maxRecDepth 100000
namespace Go.Proofs.YtniklmikdkjgiaaGreatDoor
open Go.RowKit
theorem pedits_any (a b : EV) (w : World) (h : EvIs w a) (k : EvIs w b) (ha : EdSz a.c) (hb : EdSz b.c) :
  Calls Tryz.prog 99 #[.agg (evL a).toArray, .agg (evL b).toArray] w fun e w' => e = .returned (.bool (sameE a.c b.c)) ∧ Below w.heap.size w w' := by
 have ob1 := h.ob
 have ob2 := k.ob
 obtain ⟨A5, c5, v5, r5⟩ := ob1.rs
 obtain ⟨A6, c6, v6, r6⟩ := ob2.rs
 obtain ⟨A7, c7, v7, r7⟩ := ob1.ts
 obtain ⟨A8, c8, v8, r8⟩ := ob2.ts
 clear ob1 ob2
 have SO : Hid (sameE a.c b.c = (decide (a.o.c.id = b.o.c.id) && (decide (a.o.c.kind = b.o.c.kind) && (decide (a.o.c.x = b.o.c.x) && (decide (a.o.c.y = b.o.c.y) && (decide (a.o.c.refs = b.o.c.refs) && (decide (a.o.c.tags = b.o.c.tags) && (decide (a.op = b.op) && (decide (a.id = b.id) && (decide (a.other = b.other) && (decide (a.node = b.node) && (decide (a.x = b.x) && (decide (a.y = b.y) && (decide (a.key = b.key) && (decide (a.value = b.value) && decide (a.refs = b.refs)))))))))))))))) := Lib.hid (by rw [show sameE a.c b.c = (((decide (a.refs = b.refs) && (decide (a.o.c.id = b.o.c.id) && decide (a.o.c.kind = b.o.c.kind) && decide (a.o.c.x = b.o.c.x) && decide (a.o.c.y = b.o.c.y) && decide (a.o.c.refs = b.o.c.refs) && decide (a.o.c.tags = b.o.c.tags))) && decide (a.op = b.op)) && (decide (a.id = b.id) && decide (a.other = b.other) && decide (a.node = b.node) && decide (a.key = b.key)) && decide (a.value = b.value) && (decide (a.x = b.x) && decide (a.y = b.y))) from rfl]; ac_rfl)
 obtain ⟨⟨A1, c1, v1, r1⟩, ho1⟩ := h
 obtain ⟨⟨A2, c2, v2, r2⟩, ho2⟩ := k
 obtain ⟨W, hW⟩ : ∃ W, W = (w.alloc (.cells (evL a).toArray 93)).alloc (.cells (evL b).toArray 93) := ⟨_, rfl⟩
 have BW : Hid (Below w.heap.size w W) := Lib.hid (by rw [hW]; exact ((Below.refl _ _).alloc (Nat.le_refl _) _).alloc (by simp) _)
 have HX : Hid (W.heap[w.heap.size]? = some (.cells (evL a).toArray 93 (0, 0))) := Lib.hid (by rw [hW]; exact (alloc_old _ _ (by simp)).trans (heap_alloc_new w _))
 have HY : Hid (W.heap[w.heap.size + 1]? = some (.cells (evL b).toArray 93 (0, 0))) := Lib.hid (by rw [hW]; exact alloc_new' _ _ _ (by simp))
 have HZ : W.heap.size = w.heap.size + 2 := by rw [hW]; simp
 have BA : Hid (∀ u, OldB W u → Below w.heap.size w u) := Lib.hid (fun u hu => BW.out.trans (Below.mono hu BW.out.size))
 have XA := fun u (hu : OldB W u) => (hu.block w.heap.size (by omega)).trans HX.out
 have XB := fun u (hu : OldB W u) => (hu.block (w.heap.size + 1) (by omega)).trans HY.out
 have SW : OldB W W := Below.refl _ _
 have a0 : ∀ u, OldB W u → u.cell? ⟨w.heap.size, 0, none⟩ = some (.int .i64 a.op) := fun u hu => load_block (XA u hu) (by rfl)
 have a1 : ∀ u, OldB W u → u.cell? ⟨w.heap.size, 1, none⟩ = some (.string (mkB a.id)) := fun u hu => load_block (XA u hu) (by rfl)
 have a2 : ∀ u, OldB W u → u.cell? ⟨w.heap.size, 2, none⟩ = some (.string (mkB a.other)) := fun u hu => load_block (XA u hu) (by rfl)
 have a3 : ∀ u, OldB W u → u.cell? ⟨w.heap.size, 3, none⟩ = some (.string (mkB a.node)) := fun u hu => load_block (XA u hu) (by rfl)
 have a4 : ∀ u, OldB W u → u.cell? ⟨w.heap.size, 4, none⟩ = some (.int .i64 a.x) := fun u hu => load_block (XA u hu) (by rfl)
 have a5 : ∀ u, OldB W u → u.cell? ⟨w.heap.size, 5, none⟩ = some (.int .i64 a.y) := fun u hu => load_block (XA u hu) (by rfl)
 have a6 : ∀ u, OldB W u → u.cell? ⟨w.heap.size, 6, none⟩ = some (.string (mkB a.key)) := fun u hu => load_block (XA u hu) (by rfl)
 have a7 : ∀ u, OldB W u → u.cell? ⟨w.heap.size, 7, none⟩ = some (.string (mkB a.value)) := fun u hu => load_block (XA u hu) (by rfl)
 have b0 : ∀ u, OldB W u → u.cell? ⟨w.heap.size + 1, 0, none⟩ = some (.int .i64 b.op) := fun u hu => load_block (XB u hu) (by rfl)
 have b1 : ∀ u, OldB W u → u.cell? ⟨w.heap.size + 1, 1, none⟩ = some (.string (mkB b.id)) := fun u hu => load_block (XB u hu) (by rfl)
 have b2 : ∀ u, OldB W u → u.cell? ⟨w.heap.size + 1, 2, none⟩ = some (.string (mkB b.other)) := fun u hu => load_block (XB u hu) (by rfl)
 have b3 : ∀ u, OldB W u → u.cell? ⟨w.heap.size + 1, 3, none⟩ = some (.string (mkB b.node)) := fun u hu => load_block (XB u hu) (by rfl)
 have b4 : ∀ u, OldB W u → u.cell? ⟨w.heap.size + 1, 4, none⟩ = some (.int .i64 b.x) := fun u hu => load_block (XB u hu) (by rfl)
 have b5 : ∀ u, OldB W u → u.cell? ⟨w.heap.size + 1, 5, none⟩ = some (.int .i64 b.y) := fun u hu => load_block (XB u hu) (by rfl)
 have b6 : ∀ u, OldB W u → u.cell? ⟨w.heap.size + 1, 6, none⟩ = some (.string (mkB b.key)) := fun u hu => load_block (XB u hu) (by rfl)
 have b7 : ∀ u, OldB W u → u.cell? ⟨w.heap.size + 1, 7, none⟩ = some (.string (mkB b.value)) := fun u hu => load_block (XB u hu) (by rfl)
 have a8 : ∀ u, OldB W u → u.cell? ⟨w.heap.size, 8, none⟩ = some (.slice A1 a.refs.length c1) := fun u hu => by rw [← v1]; exact load_block (XA u hu) (by rfl)
 have b8 : ∀ u, OldB W u → u.cell? ⟨w.heap.size + 1, 8, none⟩ = some (.slice A2 b.refs.length c2) := fun u hu => by rw [← v2]; exact load_block (XB u hu) (by rfl)
 have LA : Hid (∀ u, OldB W u → u.rangeAt w.heap.size 9 (roC a.o)) := Lib.hid (fun u hu => by have := ev_obj (e := a) (b := w.heap.size) (o := 0) (by have := range_of_row (XA u hu); simpa using this); simpa using this)
 have LB : Hid (∀ u, OldB W u → u.rangeAt (w.heap.size + 1) 9 (roC b.o)) := Lib.hid (fun u hu => by have := ev_obj (e := b) (b := w.heap.size + 1) (o := 0) (by have := range_of_row (XB u hu); simpa using this); simpa using this)
 have ta_id := mkB_tl a.id
 have tb_id := mkB_tl b.id
 have ta_other := mkB_tl a.other
 have tb_other := mkB_tl b.other
 have ta_node := mkB_tl a.node
 have tb_node := mkB_tl b.node
 have ta_key := mkB_tl a.key
 have tb_key := mkB_tl b.key
 have ta_value := mkB_tl a.value
 have tb_value := mkB_tl b.value
 have E1 : Hid (∀ u, OldB W u → Calls Tryz.prog 97 #[.slice A5 a.o.c.refs.length c5, .slice A6 b.o.c.refs.length c6] u fun e w' => e = .returned (.bool (decide (a.o.c.refs = b.o.c.refs))) ∧ Below u.heap.size u w') := Lib.hid (fun u hu => eqs_any A5 A6 c5 c6 a.o.c.refs b.o.c.refs _ _ u rfl rfl ha.ob.refs hb.ob.refs (r5.below (BA.out u hu)) (r6.below (BA.out u hu)))
 have E2 : Hid (∀ u, OldB W u → Calls Tryz.prog 129 #[.slice A7 a.o.c.tags.length c7, .slice A8 b.o.c.tags.length c8] u fun e w' => e = .returned (.bool (decide (a.o.c.tags = b.o.c.tags))) ∧ Below u.heap.size u w') := Lib.hid (fun u hu => eqt_any A7 A8 c7 c8 a.o.c.tags b.o.c.tags _ _ u rfl rfl ha.ob.tags hb.ob.tags (r7.below (BA.out u hu)) (r8.below (BA.out u hu)))
 have E3 : Hid (∀ u, OldB W u → Calls Tryz.prog 97 #[.slice A1 a.refs.length c1, .slice A2 b.refs.length c2] u fun e w' => e = .returned (.bool (decide (a.refs = b.refs))) ∧ Below u.heap.size u w') := Lib.hid (fun u hu => eqs_any A1 A2 c1 c2 a.refs b.refs _ _ u rfl rfl ha.refs hb.refs (r1.below (BA.out u hu)) (r2.below (BA.out u hu)))
 have ZX : Hid ((Tryz.prog.info? 91).map (·.size) = some (roC a.o).length) := Lib.hid (by kernel_rfl)
 have ZY : Hid ((Tryz.prog.info? 91).map (·.size) = some (roC b.o).length) := Lib.hid (by kernel_rfl)
 have NX : (roC a.o).length = 6 := rfl
 have NY : (roC b.o).length = 6 := rfl
 have SX : (roC a.o).toArray.size = 6 := rfl
 have SY : (roC b.o).toArray.size = 6 := rfl
 have OX : Hid ((roC a.o).toArray.all (·.oneCell') = true) := Lib.hid (by simp [roC, v5, v7, Value.oneCell'])
 have OY : Hid ((roC b.o).toArray.all (·.oneCell') = true) := Lib.hid (by simp [roC, v6, v8, Value.oneCell'])
 have oa0 : (roC a.o)[0]? = some (.string (mkB a.o.c.id)) := rfl
 have oa1 : (roC a.o)[1]? = some (.int .i64 a.o.c.kind) := rfl
 have oa2 : (roC a.o)[2]? = some (.int .i64 a.o.c.x) := rfl
 have oa3 : (roC a.o)[3]? = some (.int .i64 a.o.c.y) := rfl
 have oa4 : (roC a.o)[4]? = some (.slice A5 a.o.c.refs.length c5) := by rw [← v5]; rfl
 have oa5 : (roC a.o)[5]? = some (.slice A7 a.o.c.tags.length c7) := by rw [← v7]; rfl
 have to_a := mkB_tl a.o.c.id
 have Oa := Lib.hid (And.intro oa0 (And.intro oa1 (And.intro oa2 (And.intro oa3 (And.intro oa4 oa5)))))
 clear oa0 oa1 oa2 oa3 oa4 oa5
 have ob0 : (roC b.o)[0]? = some (.string (mkB b.o.c.id)) := rfl
 have ob1 : (roC b.o)[1]? = some (.int .i64 b.o.c.kind) := rfl
 have ob2 : (roC b.o)[2]? = some (.int .i64 b.o.c.x) := rfl
 have ob3 : (roC b.o)[3]? = some (.int .i64 b.o.c.y) := rfl
 have ob4 : (roC b.o)[4]? = some (.slice A6 b.o.c.refs.length c6) := by rw [← v6]; rfl
 have ob5 : (roC b.o)[5]? = some (.slice A8 b.o.c.tags.length c8) := by rw [← v8]; rfl
 have to_b := mkB_tl b.o.c.id
 have Ob := Lib.hid (And.intro ob0 (And.intro ob1 (And.intro ob2 (And.intro ob3 (And.intro ob4 ob5)))))
 clear ob0 ob1 ob2 ob3 ob4 ob5
 generalize sameE a.c b.c = R at *
 generalize decide (a.o.c.refs = b.o.c.refs) = q1 at *
 generalize decide (a.o.c.tags = b.o.c.tags) = q2 at *
 generalize decide (a.refs = b.refs) = q3 at *
 generalize roC a.o = oa at *
 generalize roC b.o = ob at *
 generalize (evL a).toArray = xa at *
 generalize (evL b).toArray = xb at *
 clear ha hb v1 v2 r1 r2 ho1 ho2 v5 v6 v7 v8 r5 r6 r7 r8 XA XB HX HY HZ BW
 go_enter Tryz.func99, Tryz.ntmps99
 go_upto_region 1 with fail
 rw [← hW]
 clear hW
 go_cut [5, 6] (fun s5 s6 wx => ∃ p5 p6 : Nat, s5 = .pointer (some ⟨p5, 0, none⟩) ∧ s6 = .pointer (some ⟨p6, 0, none⟩) ∧ Hid (wx.rangeAt p5 0 oa ∧ wx.rangeAt p6 0 ob) ∧ Hid (OldB W wx))
 case first =>
  (refine wp_region_noPanic ?_; refine wp_region_held_drew (S := (OldB W)) (by kernel_rfl) ?_ (fun hHeld => ?_); exact Below.drew (Below.refl _ _))
  (refine tkW 0 ?_; try simp only [gmS])
  (refine ldW 1 91 (.tmp 8) w.heap.size 9 oa _ LA.out Tryz.underlying91 ZX.out ?_; try simp only [gmS])
  (refine tkW 2 ?_; try simp only [gmS])
  (refine ldW 3 91 (.tmp 10) (w.heap.size + 1) 9 ob _ LB.out Tryz.underlying91 ZY.out ?_; try simp only [gmS])
  (refine wpAnyH_ready (rs := [4, 5]) (by kernel_rfl) (by simp) ?_; refine AllReadyH.cons (o := _) rfl (fun K hK => ?_) (AllReadyH.cons (o := _) rfl (fun K hK => ?_) AllReadyH.nil))
  ·go_simp
   (refine hK.out _ _ (OldB.alloc hHeld _) (fun hHeld2 => ?_); clear hK K hHeld; have hHeld := hHeld2; clear hHeld2; try simp only [gmS])
   first | have H1 := Lib.hid (box_new hHeld) | have H1 := Lib.hid (box_newD hHeld)
   (refine rdW 5 (fun K hK => ?_); go_simp)
   (refine hK.out _ _ (OldB.alloc hHeld _) (fun hHeld2 => ?_); clear hK K hHeld; have hHeld := hHeld2; clear hHeld2; try simp only [gmS])
   have K1 := Lib.hid (box_keep hHeld H1.out)
   first | have H2 := Lib.hid (box_new hHeld) | have H2 := Lib.hid (box_newD hHeld)
   try simp only [World.size_alloc, World.size_drew] at K1 H2
   have TX := Lib.hid (there_of_row K1.out (show 6 ≤ _ from Nat.le_refl 6))
   have TY := Lib.hid (there_of_row H2.out (show 6 ≤ _ from Nat.le_refl 6))
   clear H1 K1 H2
   refine rdR 6 (fun K hK => ?_)
   refine wp_store_mid 91 (.tmp 5) (.tmp 9) rfl (W.heap.size) 0 oa.toArray rfl rfl (by rw [SX]; exact TX.out) ZX.out OX.out ?_
   rw [List.toList_toArray]
   have RX := Lib.hid (World.rangeAt_setCells_same _ _ _ _ (show World.there _ _ _ oa.length by rw [NX]; exact TX.out))
   have TZ := Lib.hid (World.there_setCells TY.out (W.heap.size) 0 oa)
   (refine hK.out _ _ (below_setCells (w' := W) _ _ _ _ hHeld (by omega)) (fun hHeld2 => ?_); clear hK K hHeld; have hHeld := hHeld2; clear hHeld2; try simp only [gmS])
   refine rdR 7 (fun K hK => ?_)
   refine wp_store_mid 91 (.tmp 6) (.tmp 11) rfl (W.heap.size + 1) 0 ob.toArray rfl rfl (by rw [SY]; exact TZ.out) ZY.out OY.out ?_
   rw [List.toList_toArray]
   have RY := Lib.hid (World.rangeAt_setCells_same _ _ _ _ (show World.there _ _ _ ob.length by rw [NY]; exact TZ.out))
   have RZ := Lib.hid (World.rangeAt_setCells_apart RX.out (W.heap.size + 1) 0 ob (.inl (by omega)))
   (refine hK.out _ _ (below_setCells (w' := W) _ _ _ _ hHeld (by omega)) (fun hHeld2 => ?_); clear hK K hHeld; have hHeld := hHeld2; clear hHeld2; try simp only [gmS])
   have OW := Lib.hid hHeld
   (refine wpAnyH_done (by kernel_rfl) ?_ _; refine NoPanic.normal ?_)
   go_wp2_with fail
   go_meet
   exact ⟨_, _, rfl, rfl, Lib.hid ⟨RZ.out, RY.out⟩, OW⟩
  ·go_simp
   (refine hK.out _ _ (OldB.alloc hHeld _) (fun hHeld2 => ?_); clear hK K hHeld; have hHeld := hHeld2; clear hHeld2; try simp only [gmS])
   first | have H1 := Lib.hid (box_new hHeld) | have H1 := Lib.hid (box_newD hHeld)
   (refine rdW 4 (fun K hK => ?_); go_simp)
   (refine hK.out _ _ (OldB.alloc hHeld _) (fun hHeld2 => ?_); clear hK K hHeld; have hHeld := hHeld2; clear hHeld2; try simp only [gmS])
   have K1 := Lib.hid (box_keep hHeld H1.out)
   first | have H2 := Lib.hid (box_new hHeld) | have H2 := Lib.hid (box_newD hHeld)
   try simp only [World.size_alloc, World.size_drew] at K1 H2
   have TX := Lib.hid (there_of_row H2.out (show 6 ≤ _ from Nat.le_refl 6))
   have TY := Lib.hid (there_of_row K1.out (show 6 ≤ _ from Nat.le_refl 6))
   clear H1 K1 H2
   refine rdR 6 (fun K hK => ?_)
   refine wp_store_mid 91 (.tmp 5) (.tmp 9) rfl (W.heap.size + 1) 0 oa.toArray rfl rfl (by rw [SX]; exact TX.out) ZX.out OX.out ?_
   rw [List.toList_toArray]
   have RX := Lib.hid (World.rangeAt_setCells_same _ _ _ _ (show World.there _ _ _ oa.length by rw [NX]; exact TX.out))
   have TZ := Lib.hid (World.there_setCells TY.out (W.heap.size + 1) 0 oa)
   (refine hK.out _ _ (below_setCells (w' := W) _ _ _ _ hHeld (by omega)) (fun hHeld2 => ?_); clear hK K hHeld; have hHeld := hHeld2; clear hHeld2; try simp only [gmS])
   refine rdR 7 (fun K hK => ?_)
   refine wp_store_mid 91 (.tmp 6) (.tmp 11) rfl (W.heap.size) 0 ob.toArray rfl rfl (by rw [SY]; exact TZ.out) ZY.out OY.out ?_
   rw [List.toList_toArray]
   have RY := Lib.hid (World.rangeAt_setCells_same _ _ _ _ (show World.there _ _ _ ob.length by rw [NY]; exact TZ.out))
   have RZ := Lib.hid (World.rangeAt_setCells_apart RX.out (W.heap.size) 0 ob (.inl (by omega)))
   (refine hK.out _ _ (below_setCells (w' := W) _ _ _ _ hHeld (by omega)) (fun hHeld2 => ?_); clear hK K hHeld; have hHeld := hHeld2; clear hHeld2; try simp only [gmS])
   have OW := Lib.hid hHeld
   (refine wpAnyH_done (by kernel_rfl) ?_ _; refine NoPanic.normal ?_)
   go_wp2_with fail
   go_meet
   exact ⟨_, _, rfl, rfl, Lib.hid ⟨RZ.out, RY.out⟩, OW⟩
 case rest =>
  obtain ⟨p5, p6, rfl, rfl, RG, OWX⟩ := hcut
  obtain ⟨wx, hwx⟩ : ∃ wx, wx = wc := ⟨_, rfl⟩
  rw [← hwx] at RG OWX ⊢
  clear hwx wc
  have O0 : OldB W wx := OWX.out
  have la : p5 < wx.heap.size := by have := RG.out.1 0 _ Oa.out.1; exact World.block_lt_of_cell? _ _ this
  have Ca := Lib.hid (fun u (hu : OldB wx u) => rangeAt_old la RG.out.1 u hu)
  have ga0 : ∀ u, OldB wx u → u.cell? ⟨p5, 0, none⟩ = some (.string (mkB a.o.c.id)) := fun u hu => by have := Ca.out u hu 0 _ Oa.out.1; simpa using this
  have ga1 : ∀ u, OldB wx u → u.cell? ⟨p5, 1, none⟩ = some (.int .i64 a.o.c.kind) := fun u hu => by have := Ca.out u hu 1 _ Oa.out.2.1; simpa using this
  have ga2 : ∀ u, OldB wx u → u.cell? ⟨p5, 2, none⟩ = some (.int .i64 a.o.c.x) := fun u hu => by have := Ca.out u hu 2 _ Oa.out.2.2.1; simpa using this
  have ga3 : ∀ u, OldB wx u → u.cell? ⟨p5, 3, none⟩ = some (.int .i64 a.o.c.y) := fun u hu => by have := Ca.out u hu 3 _ Oa.out.2.2.2.1; simpa using this
  have ga4 : ∀ u, OldB wx u → u.cell? ⟨p5, 4, none⟩ = some (.slice A5 a.o.c.refs.length c5) := fun u hu => by have := Ca.out u hu 4 _ Oa.out.2.2.2.2.1; simpa using this
  have ga5 : ∀ u, OldB wx u → u.cell? ⟨p5, 5, none⟩ = some (.slice A7 a.o.c.tags.length c7) := fun u hu => by have := Ca.out u hu 5 _ Oa.out.2.2.2.2.2; simpa using this
  have lb : p6 < wx.heap.size := by have := RG.out.2 0 _ Ob.out.1; exact World.block_lt_of_cell? _ _ this
  have Cb := Lib.hid (fun u (hu : OldB wx u) => rangeAt_old lb RG.out.2 u hu)
  have gb0 : ∀ u, OldB wx u → u.cell? ⟨p6, 0, none⟩ = some (.string (mkB b.o.c.id)) := fun u hu => by have := Cb.out u hu 0 _ Ob.out.1; simpa using this
  have gb1 : ∀ u, OldB wx u → u.cell? ⟨p6, 1, none⟩ = some (.int .i64 b.o.c.kind) := fun u hu => by have := Cb.out u hu 1 _ Ob.out.2.1; simpa using this
  have gb2 : ∀ u, OldB wx u → u.cell? ⟨p6, 2, none⟩ = some (.int .i64 b.o.c.x) := fun u hu => by have := Cb.out u hu 2 _ Ob.out.2.2.1; simpa using this
  have gb3 : ∀ u, OldB wx u → u.cell? ⟨p6, 3, none⟩ = some (.int .i64 b.o.c.y) := fun u hu => by have := Cb.out u hu 3 _ Ob.out.2.2.2.1; simpa using this
  have gb4 : ∀ u, OldB wx u → u.cell? ⟨p6, 4, none⟩ = some (.slice A6 b.o.c.refs.length c6) := fun u hu => by have := Cb.out u hu 4 _ Ob.out.2.2.2.2.1; simpa using this
  have gb5 : ∀ u, OldB wx u → u.cell? ⟨p6, 5, none⟩ = some (.slice A8 b.o.c.tags.length c8) := fun u hu => by have := Cb.out u hu 5 _ Ob.out.2.2.2.2.2; simpa using this
  have X0 : OldB wx wx := Below.refl _ _
  have XW : Hid (∀ u, OldB wx u → OldB W u) := Lib.hid (fun u hu => O0.then hu)
  replace a0 := fun u (hu : OldB wx u) => a0 u (XW.out u hu)
  replace a1 := fun u (hu : OldB wx u) => a1 u (XW.out u hu)
  replace a2 := fun u (hu : OldB wx u) => a2 u (XW.out u hu)
  replace a3 := fun u (hu : OldB wx u) => a3 u (XW.out u hu)
  replace a4 := fun u (hu : OldB wx u) => a4 u (XW.out u hu)
  replace a5 := fun u (hu : OldB wx u) => a5 u (XW.out u hu)
  replace a6 := fun u (hu : OldB wx u) => a6 u (XW.out u hu)
  replace a7 := fun u (hu : OldB wx u) => a7 u (XW.out u hu)
  replace a8 := fun u (hu : OldB wx u) => a8 u (XW.out u hu)
  replace b0 := fun u (hu : OldB wx u) => b0 u (XW.out u hu)
  replace b1 := fun u (hu : OldB wx u) => b1 u (XW.out u hu)
  replace b2 := fun u (hu : OldB wx u) => b2 u (XW.out u hu)
  replace b3 := fun u (hu : OldB wx u) => b3 u (XW.out u hu)
  replace b4 := fun u (hu : OldB wx u) => b4 u (XW.out u hu)
  replace b5 := fun u (hu : OldB wx u) => b5 u (XW.out u hu)
  replace b6 := fun u (hu : OldB wx u) => b6 u (XW.out u hu)
  replace b7 := fun u (hu : OldB wx u) => b7 u (XW.out u hu)
  replace b8 := fun u (hu : OldB wx u) => b8 u (XW.out u hu)
  replace E1 := Lib.hid (fun u (hu : OldB wx u) => E1.out u (XW.out u hu))
  replace E2 := Lib.hid (fun u (hu : OldB wx u) => E2.out u (XW.out u hu))
  replace E3 := Lib.hid (fun u (hu : OldB wx u) => E3.out u (XW.out u hu))
  replace BA := Lib.hid (fun u (hu : OldB wx u) => BA.out u (XW.out u hu))
  clear SW O0 LA LB
  by_cases h : a.o.c.id = b.o.c.id
  ·have e1 : (a.o.c.id == b.o.c.id) = true := by rw [h]; simp
   have SO1 : Hid (R = (decide (a.o.c.kind = b.o.c.kind) && (decide (a.o.c.x = b.o.c.x) && (decide (a.o.c.y = b.o.c.y) && (q1 && (q2 && (decide (a.op = b.op) && (decide (a.id = b.id) && (decide (a.other = b.other) && (decide (a.node = b.node) && (decide (a.x = b.x) && (decide (a.y = b.y) && (decide (a.key = b.key) && (decide (a.value = b.value) && q3)))))))))))))) := Lib.hid (by rw [SO.out, decide_eq_true h, Bool.true_and])
   clear SO h
   by_cases h : a.o.c.kind = b.o.c.kind
   ·have e2 : (a.o.c.kind == b.o.c.kind) = true := by rw [h]; simp
    have SO2 : Hid (R = (decide (a.o.c.x = b.o.c.x) && (decide (a.o.c.y = b.o.c.y) && (q1 && (q2 && (decide (a.op = b.op) && (decide (a.id = b.id) && (decide (a.other = b.other) && (decide (a.node = b.node) && (decide (a.x = b.x) && (decide (a.y = b.y) && (decide (a.key = b.key) && (decide (a.value = b.value) && q3))))))))))))) := Lib.hid (by rw [SO1.out, decide_eq_true h, Bool.true_and])
    clear SO1 h
    by_cases h : a.o.c.x = b.o.c.x
    ·have e3 : (a.o.c.x == b.o.c.x) = true := by rw [h]; simp
     have SO3 : Hid (R = (decide (a.o.c.y = b.o.c.y) && (q1 && (q2 && (decide (a.op = b.op) && (decide (a.id = b.id) && (decide (a.other = b.other) && (decide (a.node = b.node) && (decide (a.x = b.x) && (decide (a.y = b.y) && (decide (a.key = b.key) && (decide (a.value = b.value) && q3)))))))))))) := Lib.hid (by rw [SO2.out, decide_eq_true h, Bool.true_and])
     clear SO2 h
     by_cases h : a.o.c.y = b.o.c.y
     ·have e4 : (a.o.c.y == b.o.c.y) = true := by rw [h]; simp
      have SO4 : Hid (R = (q1 && (q2 && (decide (a.op = b.op) && (decide (a.id = b.id) && (decide (a.other = b.other) && (decide (a.node = b.node) && (decide (a.x = b.x) && (decide (a.y = b.y) && (decide (a.key = b.key) && (decide (a.value = b.value) && q3))))))))))) := Lib.hid (by rw [SO3.out, decide_eq_true h, Bool.true_and])
      clear SO3 h
      go_wp2_with fail
      (with_reducible refine (E1.out _ X0).mono ?_)
      rintro e u5 ⟨rfl, d5⟩
      have O5 : OldB wx u5 := X0.then d5
      clear d5 X0
      cases q1
      ·have RF : Hid (R = false) := Lib.hid (by rw [SO4.out, Bool.false_and])
       clear SO4
       go_wp2_with fail
       go_ret
       exact ⟨by rw [RF.out]; rfl, BA.out _ O5⟩
      ·have SO5 : Hid (R = (q2 && (decide (a.op = b.op) && (decide (a.id = b.id) && (decide (a.other = b.other) && (decide (a.node = b.node) && (decide (a.x = b.x) && (decide (a.y = b.y) && (decide (a.key = b.key) && (decide (a.value = b.value) && q3)))))))))) := Lib.hid (by rw [SO4.out, Bool.true_and])
       clear SO4
       go_wp2_with fail
       (with_reducible refine (E2.out _ O5).mono ?_)
       rintro e u6 ⟨rfl, d6⟩
       have O6 : OldB wx u6 := O5.then d6
       clear d6 O5
       cases q2
       ·have RF : Hid (R = false) := Lib.hid (by rw [SO5.out, Bool.false_and])
        clear SO5
        go_wp2_with fail
        go_ret
        exact ⟨by rw [RF.out]; rfl, BA.out _ O6⟩
       ·have SO6 : Hid (R = (decide (a.op = b.op) && (decide (a.id = b.id) && (decide (a.other = b.other) && (decide (a.node = b.node) && (decide (a.x = b.x) && (decide (a.y = b.y) && (decide (a.key = b.key) && (decide (a.value = b.value) && q3))))))))) := Lib.hid (by rw [SO5.out, Bool.true_and])
        clear SO5
        by_cases h : a.op = b.op
        ·have e7 : (a.op == b.op) = true := by rw [h]; simp
         have SO7 : Hid (R = (decide (a.id = b.id) && (decide (a.other = b.other) && (decide (a.node = b.node) && (decide (a.x = b.x) && (decide (a.y = b.y) && (decide (a.key = b.key) && (decide (a.value = b.value) && q3)))))))) := Lib.hid (by rw [SO6.out, decide_eq_true h, Bool.true_and])
         clear SO6 h
         by_cases h : a.id = b.id
         ·have e8 : (a.id == b.id) = true := by rw [h]; simp
          have SO8 : Hid (R = (decide (a.other = b.other) && (decide (a.node = b.node) && (decide (a.x = b.x) && (decide (a.y = b.y) && (decide (a.key = b.key) && (decide (a.value = b.value) && q3))))))) := Lib.hid (by rw [SO7.out, decide_eq_true h, Bool.true_and])
          clear SO7 h
          by_cases h : a.other = b.other
          ·have e9 : (a.other == b.other) = true := by rw [h]; simp
           have SO9 : Hid (R = (decide (a.node = b.node) && (decide (a.x = b.x) && (decide (a.y = b.y) && (decide (a.key = b.key) && (decide (a.value = b.value) && q3)))))) := Lib.hid (by rw [SO8.out, decide_eq_true h, Bool.true_and])
           clear SO8 h
           by_cases h : a.node = b.node
           ·have e10 : (a.node == b.node) = true := by rw [h]; simp
            have SO10 : Hid (R = (decide (a.x = b.x) && (decide (a.y = b.y) && (decide (a.key = b.key) && (decide (a.value = b.value) && q3))))) := Lib.hid (by rw [SO9.out, decide_eq_true h, Bool.true_and])
            clear SO9 h
            by_cases h : a.x = b.x
            ·have e11 : (a.x == b.x) = true := by rw [h]; simp
             have SO11 : Hid (R = (decide (a.y = b.y) && (decide (a.key = b.key) && (decide (a.value = b.value) && q3)))) := Lib.hid (by rw [SO10.out, decide_eq_true h, Bool.true_and])
             clear SO10 h
             by_cases h : a.y = b.y
             ·have e12 : (a.y == b.y) = true := by rw [h]; simp
              have SO12 : Hid (R = (decide (a.key = b.key) && (decide (a.value = b.value) && q3))) := Lib.hid (by rw [SO11.out, decide_eq_true h, Bool.true_and])
              clear SO11 h
              by_cases h : a.key = b.key
              ·have e13 : (a.key == b.key) = true := by rw [h]; simp
               have SO13 : Hid (R = (decide (a.value = b.value) && q3)) := Lib.hid (by rw [SO12.out, decide_eq_true h, Bool.true_and])
               clear SO12 h
               by_cases h : a.value = b.value
               ·have e14 : (a.value == b.value) = true := by rw [h]; simp
                have SO14 : Hid (R = q3) := Lib.hid (by rw [SO13.out, decide_eq_true h, Bool.true_and])
                clear SO13 h
                go_wp2_with fail
                (with_reducible refine (E3.out _ O6).mono ?_)
                rintro e u15 ⟨rfl, d15⟩
                have O15 : OldB wx u15 := O6.then d15
                clear d15 O6
                go_wp2_with fail
                go_ret
                exact ⟨by rw [SO14.out]; rfl, BA.out _ O15⟩
               ·have e14 : (a.value == b.value) = false := by simpa using h
                have RF : Hid (R = false) := Lib.hid (by rw [SO13.out, decide_eq_false h, Bool.false_and])
                clear SO13 h
                go_wp2_with fail
                go_ret
                exact ⟨by rw [RF.out]; rfl, BA.out _ O6⟩
              ·have e13 : (a.key == b.key) = false := by simpa using h
               have RF : Hid (R = false) := Lib.hid (by rw [SO12.out, decide_eq_false h, Bool.false_and])
               clear SO12 h
               go_wp2_with fail
               go_ret
               exact ⟨by rw [RF.out]; rfl, BA.out _ O6⟩
             ·have e12 : (a.y == b.y) = false := by simpa using h
              have RF : Hid (R = false) := Lib.hid (by rw [SO11.out, decide_eq_false h, Bool.false_and])
              clear SO11 h
              go_wp2_with fail
              go_ret
              exact ⟨by rw [RF.out]; rfl, BA.out _ O6⟩
            ·have e11 : (a.x == b.x) = false := by simpa using h
             have RF : Hid (R = false) := Lib.hid (by rw [SO10.out, decide_eq_false h, Bool.false_and])
             clear SO10 h
             go_wp2_with fail
             go_ret
             exact ⟨by rw [RF.out]; rfl, BA.out _ O6⟩
           ·have e10 : (a.node == b.node) = false := by simpa using h
            have RF : Hid (R = false) := Lib.hid (by rw [SO9.out, decide_eq_false h, Bool.false_and])
            clear SO9 h
            go_wp2_with fail
            go_ret
            exact ⟨by rw [RF.out]; rfl, BA.out _ O6⟩
          ·have e9 : (a.other == b.other) = false := by simpa using h
           have RF : Hid (R = false) := Lib.hid (by rw [SO8.out, decide_eq_false h, Bool.false_and])
           clear SO8 h
           go_wp2_with fail
           go_ret
           exact ⟨by rw [RF.out]; rfl, BA.out _ O6⟩
         ·have e8 : (a.id == b.id) = false := by simpa using h
          have RF : Hid (R = false) := Lib.hid (by rw [SO7.out, decide_eq_false h, Bool.false_and])
          clear SO7 h
          go_wp2_with fail
          go_ret
          exact ⟨by rw [RF.out]; rfl, BA.out _ O6⟩
        ·have e7 : (a.op == b.op) = false := by simpa using h
         have RF : Hid (R = false) := Lib.hid (by rw [SO6.out, decide_eq_false h, Bool.false_and])
         clear SO6 h
         go_wp2_with fail
         go_ret
         exact ⟨by rw [RF.out]; rfl, BA.out _ O6⟩
     ·have e4 : (a.o.c.y == b.o.c.y) = false := by simpa using h
      have RF : Hid (R = false) := Lib.hid (by rw [SO3.out, decide_eq_false h, Bool.false_and])
      clear SO3 h
      go_wp2_with fail
      go_ret
      exact ⟨by rw [RF.out]; rfl, BA.out _ X0⟩
    ·have e3 : (a.o.c.x == b.o.c.x) = false := by simpa using h
     have RF : Hid (R = false) := Lib.hid (by rw [SO2.out, decide_eq_false h, Bool.false_and])
     clear SO2 h
     go_wp2_with fail
     go_ret
     exact ⟨by rw [RF.out]; rfl, BA.out _ X0⟩
   ·have e2 : (a.o.c.kind == b.o.c.kind) = false := by simpa using h
    have RF : Hid (R = false) := Lib.hid (by rw [SO1.out, decide_eq_false h, Bool.false_and])
    clear SO1 h
    go_wp2_with fail
    go_ret
    exact ⟨by rw [RF.out]; rfl, BA.out _ X0⟩
  ·have e1 : (a.o.c.id == b.o.c.id) = false := by simpa using h
   have RF : Hid (R = false) := Lib.hid (by rw [SO.out, decide_eq_false h, Bool.false_and])
   clear SO h
   go_wp2_with fail
   go_ret
   exact ⟨by rw [RF.out]; rfl, BA.out _ X0⟩
end Go.Proofs.YtniklmikdkjgiaaGreatDoor
namespace Go.Proofs.YtniklmikdkjgiaaGreatDoor
open Go.RowKit
theorem evL_one (e : EV) (h : ∃ w, EvIs w e) : (evL e).toArray.all (·.oneCell') = true := by
 obtain ⟨w, ⟨A1, c1, v1, -⟩, ⟨A2, c2, v2, -⟩, ⟨A3, c3, v3, -⟩⟩ := h
 simp [evL, v1, v2, v3, Value.oneCell']
theorem eqfe_any (A B : Option Addr) (c d : Nat) (l m : List EV) (n1 n2 : Nat) (w : World) (hn1 : n1 = l.length) (hn2 : n2 = m.length) (h : Es w A l) (h2 : Es w B m) :
  Calls Tryz.prog 98 #[.slice A n1 c, .slice B n2 d, .func (.func 99) #[] #[]] w fun e w' => e = .returned (.bool (all2 (fun a b => sameE a.c b.c) l m)) ∧ Below w.heap.size w w' := by
 have hl : n1 ≤ 100000 := by rw [hn1]; exact h.len
 have hm : n2 ≤ 100000 := by rw [hn2]; exact h2.len
 have H := Lib.hid h
 have H2 := Lib.hid h2
 have HN := Lib.hid hn1
 have HM := Lib.hid hn2
 clear hn1 hn2 h h2
 obtain ⟨R, hR⟩ : ∃ R, all2 (fun a b => sameE a.c b.c) l m = R := ⟨_, rfl⟩
 have HR := Lib.hid hR
 rw [hR]
 clear hR
 have B0 : Hid (Below w.heap.size w w) := Lib.hid (Below.refl _ _)
 by_cases hlen : n1 = n2
 ·have hq : ((n1 : Int) != (n2 : Int)) = false := by rw [hlen]; simp
  have HL := Lib.hid hlen
  have HR0 : Hid (R = all2 (fun a b => sameE a.c b.c) (l.drop 0) (m.drop 0)) := Lib.hid HR.out.symm
  clear hlen HR
  go_enter Tryz.func98, Tryz.ntmps98
  go_wp2_with fail
  go_loopw [7, 8, 9, 17] (fun s7 s8 s9 i wr => ∃ k : Nat, k ≤ n1 ∧ i = .int .i64 (k : Int) ∧ (∃ p, s7 = p) ∧ (∃ p, s8 = p) ∧ (∃ p, s9 = p) ∧ Hid (R = all2 (fun a b => sameE a.c b.c) (l.drop k) (m.drop k)) ∧ Hid (Below w.heap.size w wr)) (fun _ _ _ i _ => n1 - (intOf i).toNat)
  case atStart => exact ⟨0, Nat.zero_le _, rfl, ⟨_, rfl⟩, ⟨_, rfl⟩, ⟨_, rfl⟩, HR0, B0⟩
  case round =>
   clear B0 HR0
   obtain ⟨k, hk, rfl, ⟨p7, rfl⟩, ⟨p8, rfl⟩, ⟨p9, rfl⟩, HR, BL⟩ := hrel
   by_cases hlt : k < n1
   ·have hkl : k < l.length := by rw [← HN.out]; exact hlt
    have hkm : k < m.length := by rw [← HM.out, ← HL.out]; exact hlt
    have d1 : (k : Int) < (n1 : Int) := by omega
    have d3 : (k : Int) < (n2 : Int) := by have := HL.out; omega
    have d2 : (0 : Int) ≤ (k : Int) := by omega
    obtain ⟨b, off, rfl, hb, hc⟩ := evs_at (H.out.rd.below BL.out) hkl
    obtain ⟨b', off', rfl, hb', hc'⟩ := evs_at (H2.out.rd.below BL.out) hkm
    have HO := H.out.is l[k] (List.getElem_mem hkl)
    have HO' := H2.out.is m[k] (List.getElem_mem hkm)
    have SZ := H.out.sz l[k] (List.getElem_mem hkl)
    have SZ' := H2.out.sz m[k] (List.getElem_mem hkm)
    have HD : Hid (R = ((fun a b => sameE a.c b.c) l[k] m[k] && all2 (fun a b => sameE a.c b.c) (l.drop (k + 1)) (m.drop (k + 1)))) := Lib.hid (HR.out.trans (all2_drop hkl hkm))
    dsimp only at HD
    have LA : Hid (wr.rangeAt b (off + k * 15) (evL l[k])) := Lib.hid (fun j v hj => hc j v hj)
    have LB0 : Hid (wr.rangeAt b' (off' + k * 15) (evL m[k])) := Lib.hid (fun j v hj => hc' j v hj)
    clear HR hc hc'
    generalize l[k] = x at *
    generalize m[k] = y at *
    obtain ⟨X, hX⟩ : ∃ X, X = wr.alloc (.cells (evL x).toArray 93) := ⟨_, rfl⟩
    obtain ⟨bx, hbx⟩ : ∃ bx, wr.heap.size = bx := ⟨_, rfl⟩
    obtain ⟨Y, hY⟩ : ∃ Y, Y = X.alloc (.cells (evL y).toArray 93) := ⟨_, rfl⟩
    obtain ⟨bb, hbb⟩ : ∃ bb, X.heap.size = bb := ⟨_, rfl⟩
    have BX : Below wr.heap.size wr X := by rw [hX]; exact (Below.refl _ _).alloc (Nat.le_refl _) _
    have BY : Below X.heap.size X Y := by rw [hY]; exact (Below.refl _ _).alloc (Nat.le_refl _) _
    have OX : OldB wr X := BX
    have OY : OldB wr Y := OX.then BY
    have XX : X.heap[bx]? = some (.cells (evL x).toArray 93 (0, 0)) := by rw [hX, ← hbx]; exact heap_alloc_new wr _
    have YY : Hid (Y.heap[bb]? = some (.cells (evL y).toArray 93 (0, 0))) := Lib.hid (by rw [hY, ← hbb]; exact heap_alloc_new X _)
    have YX : Hid (Y.heap[bx]? = some (.cells (evL x).toArray 93 (0, 0))) := Lib.hid ((BY.block bx (lt_of_block XX)).trans XX)
    have LB := Lib.hid (rangeAt_old hb' LB0.out X OX)
    have RX : Hid (Y.rangeAt bx 0 (evL x)) := Lib.hid (by have := range_of_row YX.out; simpa using this)
    have RY : Hid (Y.rangeAt bb 0 (evL y)) := Lib.hid (by have := range_of_row YY.out; simpa using this)
    have BW : Hid (Below w.heap.size w Y) := Lib.hid (BL.out.trans (Below.mono OY BL.out.size))
    have SM : Hid (Calls Tryz.prog 99 #[.agg (evL x).toArray, .agg (evL y).toArray] Y fun e w' => e = .returned (.bool (sameE x.c y.c)) ∧ Below Y.heap.size Y w') := Lib.hid (pedits_any x y Y (HO.below BW.out) (HO'.below BW.out) SZ SZ')
    have ZX : Hid ((Tryz.prog.info? 93).map (·.size) = some (evL x).length) := Lib.hid (by kernel_rfl)
    have ZY : Hid ((Tryz.prog.info? 93).map (·.size) = some (evL y).length) := Lib.hid (by kernel_rfl)
    have ZXA : Hid ((Tryz.prog.info? 93).map (·.size) = some (evL x).toArray.size) := Lib.hid (by kernel_rfl)
    have ZYA : Hid ((Tryz.prog.info? 93).map (·.size) = some (evL y).toArray.size) := Lib.hid (by kernel_rfl)
    have NX : Hid ((evL x).toArray.size ≤ 15) := Lib.hid (Nat.le_refl 15)
    have NY : Hid ((evL y).toArray.size ≤ 15) := Lib.hid (Nat.le_refl 15)
    have OEX := Lib.hid (evL_one x ⟨_, HO⟩)
    have OEY := Lib.hid (evL_one y ⟨_, HO'⟩)
    have FX := Lib.hid (fun z (hz : z.length = 15) => setCells_freshG (P := Tryz.prog) wr 93 z (evL x) ZXA.out (hz.trans rfl) OEX.out)
    have FY := Lib.hid (fun z (hz : z.length = 15) => setCells_freshG (P := Tryz.prog) X 93 z (evL y) ZYA.out (hz.trans rfl) OEY.out)
    have X0 := Lib.hid hX
    have X1 := Lib.hid hbx
    have Y0 := Lib.hid hY
    have Y1 := Lib.hid hbb
    clear HO HO' SZ SZ' LB0 hX hbx hY hbb BX BY OX OY XX YY YX
    generalize sameE x.c y.c = q at *
    generalize evL x = xs at *
    generalize evL y = ys at *
    go_wp2_with (first
     | (refine wpList_load_mid rfl 93 (.tmp 20) rfl b (off + k * 15) rfl xs _ LA.out Tryz.underlying93 rfl ZX.out ?_)
     | (refine wpList_load_mid rfl 93 (.tmp 24) rfl b' (off' + k * 15) rfl ys _ LB.out Tryz.underlying93 rfl ZY.out ?_)
     | (refine wpList_store_mid rfl 93 (.tmp 8) (.tmp 21) rfl wr.heap.size 0 xs.toArray rfl rfl (there_of_row (heap_alloc_new wr _) NX.out) ZXA.out OEX.out ?_; rw [List.toList_toArray, FX.out _ rfl, ← X0.out, X1.out])
     | (refine wpList_store_mid rfl 93 (.tmp 9) (.tmp 25) rfl X.heap.size 0 ys.toArray rfl rfl (there_of_row (heap_alloc_new X _) NY.out) ZYA.out OEY.out ?_; rw [List.toList_toArray, FY.out _ rfl, ← Y0.out, Y1.out])
     | (refine wpList_load_mid rfl 93 (.tmp 8) rfl bx 0 rfl xs _ RX.out Tryz.underlying93 rfl ZX.out ?_)
     | (refine wpList_load_mid rfl 93 (.tmp 9) rfl bb 0 rfl ys _ RY.out Tryz.underlying93 rfl ZY.out ?_))
    (with_reducible refine SM.out.mono ?_)
    rintro e u1 ⟨rfl, b1⟩
    have B2 := Lib.hid (BW.out.trans (b1.mono BW.out.size))
    clear b1 SM BW RX RY LA LB FX FY X0 X1 Y0 Y1
    cases q
    ·have RF : Hid (R = false) := Lib.hid (by rw [HD.out, Bool.false_and])
     clear HD
     go_wp2_with fail
     go_ret
     exact ⟨by rw [RF.out]; rfl, B2.out⟩
    ·have R2 : Hid (R = all2 (fun a b => sameE a.c b.c) (l.drop (k + 1)) (m.drop (k + 1))) := Lib.hid (by rw [HD.out, Bool.true_and])
     clear HD
     go_wp2_with fail
     exact ⟨⟨k + 1, by omega, by go_num, ⟨_, rfl⟩, ⟨_, rfl⟩, ⟨_, rfl⟩, R2, B2⟩, by simp [intOf]; omega⟩
   ·have d1 : ¬ (k : Int) < (n1 : Int) := by omega
    have RT : Hid (R = true) := Lib.hid (HR.out.trans (all2_end (by rw [← HN.out]; omega) (by rw [← HM.out, ← HL.out]; omega)))
    clear HR
    go_wp2_with fail
    go_ret
    exact ⟨by rw [RT.out]; rfl, BL.out⟩
 ·have hq : ((n1 : Int) != (n2 : Int)) = true := by simp; omega
  have RF : Hid (R = false) := Lib.hid (HR.out.symm.trans (all2_ne (by rw [← HN.out, ← HM.out]; exact hlen)))
  clear hlen HR
  go_enter Tryz.func98, Tryz.ntmps98
  go_wp2_with fail
  go_ret
  exact ⟨by rw [RF.out]; rfl, B0.out⟩
end Go.Proofs.YtniklmikdkjgiaaGreatDoor
