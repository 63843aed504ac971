/- WALK: the statement ModerateBeginnings (printed by gen_mj.py). -/
import Derived.Test.YtniklmikdkjgiaaGreatDoorMJ0
import Derived.Test.YtniklmikdkjgiaaGreatDoorWD
set_option linter.unusedSimpArgs false
set_option linter.unusedVariables false
namespace Go.Proofs.YtniklmikdkjgiaaGreatDoor
open Go.RowKit

set_option maxHeartbeats 16000000 in
set_option maxRecDepth 100000 in
theorem walk_ModerateBeginnings (A : Option Addr) (cA : Nat) (l : List RV) (x : WoV) (r : RV) (w : World) (h : Rw w A l) (hz : l.length * 336 ≤ 140737488351232) (hx : WoIs w x) (hr : RvW w r) (ht : Tab w) :
    Calls Tryz.prog 10 #[.slice A l.length cA, woA x, rvA r] w fun e w' => e = .returned (.bool true) ∧ Below w.heap.size w w' := by
  unfold woA rvA
  obtain ⟨n1, hn1⟩ : ∃ n1, n1 = l.length := ⟨_, rfl⟩
  have N1 := Lib.hid hn1
  rw [← hn1] at hz ⊢
  obtain ⟨X, hX⟩ : ∃ X, X = (w.alloc (.cells (woL x).toArray 38)).alloc (.cells (rvL r).toArray 56) := ⟨_, rfl⟩
  obtain ⟨bw, hbw⟩ : ∃ bw, w.heap.size = bw := ⟨_, rfl⟩
  obtain ⟨bx, hbx⟩ : ∃ bx, w.heap.size + 1 = bx := ⟨_, rfl⟩
  have BX : Below w.heap.size w X := by rw [hX]; exact ((Below.refl _ _).alloc (Nat.le_refl _) _).alloc (by simp) _
  have XW : X.heap[bw]? = some (.cells (woL x).toArray 38 (0, 0)) := by rw [hX, ← hbw]; exact (alloc_old _ _ (by simp)).trans (heap_alloc_new w _)
  have XR : X.heap[bx]? = some (.cells (rvL r).toArray 56 (0, 0)) := by rw [hX, ← hbx]; exact alloc_new' _ _ _ (by simp)
  have RX : Hid (∀ u, OldB X u → u.rangeAt bw 0 (woL x)) := Lib.hid (fun u hu => by have := range_of_row ((hu.block bw (lt_of_block XW)).trans XW); simpa using this)
  have RR : Hid (∀ u, OldB X u → u.rangeAt bx 0 (rvL r)) := Lib.hid (fun u hu => by have := range_of_row ((hu.block bx (lt_of_block XR)).trans XR); simpa using this)
  have HD := Lib.hid (head29_any X (ht.keep BX))
  have BB : Hid (∀ u, OldB X u → Below w.heap.size w u) := Lib.hid (fun u hu => BX.trans (Below.mono hu BX.size))
  have H1 := Lib.hid h
  have HX := Lib.hid hx
  have HR := Lib.hid hr
  have HT := Lib.hid ht
  have hbw2 := Lib.hid hbw
  have hbx2 := Lib.hid hbx
  have X0 := Lib.hid hX
  clear hn1 hX hbw hbx BX XW XR h hx ht hr
  go_enter Tryz.func10, Tryz.ntmps10
  go_upto_region 1 with fail
  rw [← X0.out, hbx2.out, hbw2.out]
  clear X0
  go_wp2_with fail
  (with_reducible refine HD.out.mono ?_)
  rintro e wd1 ⟨rfl, b1⟩
  have O1 : OldB X wd1 := b1
  have L1 : ∀ u, OldB wd1 u → OldB X u := fun u hu => O1.then hu
  clear b1 HD
  go_upto_region 2 with fail
  go_cut [8] (fun s8 wx => ∃ A3 c3, s8 = .slice A3 (n1 + 1) c3 ∧ Hid (Rw wx A3 (l ++ [r])) ∧ Hid (OldB X wx))
  case first =>
    (refine wp_region_noPanic ?_; refine wp_region_held_drew (S := (OldB wd1)) (by kernel_rfl) ?_ (fun hHeld => ?_); exact Below.drew (Below.refl _ _))
    generalize wd1.drew = ud at *
    (refine tkW 1 ?_; try simp only [gmS])
    (refine ldW 3 56 (.tmp 5) bx 0 (rvL r) _ (fun v hv => RR.out v (O1.then hv)) Tryz.underlying56 (mrec_szL r) ?_; try simp only [gmS])
    (refine wpAnyH_ready (rs := [0, 4]) (by kernel_rfl) (by simp) ?_; refine AllReadyH.cons (o := _) rfl (fun K hK => ?_) (AllReadyH.cons (o := _) rfl (fun K hK => ?_) AllReadyH.nil))
    · skip
      go_simp
      have OE := Lib.hid (own_baseG (Below.size (show Below _ _ _ from hHeld)) (own_empty21 _ (cs := #[]) rfl 56))
      try simp only [World.size_alloc] at OE
      (refine hK.out _ _ (OldB.alloc hHeld _) (fun hHeld2 => ?_); clear hK K hHeld; have hHeld := hHeld2; clear hHeld2; try simp only [gmS])
      (refine wpAnyH_ready (rs := [2, 4]) (by kernel_rfl) (by simp) ?_; refine AllReadyH.cons (o := _) rfl (fun K hK => ?_) (AllReadyH.cons (o := _) rfl (fun K hK => ?_) AllReadyH.nil))
      · skip
        rw [if_pos (by first | rfl | (simp [Region.wanted, yielded]; done))]
        refine wp_appF (.tmp 14) (.tmp 15) 22 rfl Tryz.underlying22 info_rec rfl (by decide) wd1.heap.size _ 0 (rvsL []) A n1 cA (rvsL l) (rvsW_one H1.out.is) rfl rfl OE.out (H1.out.rd.below (BB.out _ (L1 _ hHeld))) (by rw [rvsL_len, ← N1.out]) (Below.size (show Below _ _ _ from hHeld)) (by omega) (by omega) ?_
        intro v3 w3 ho3 hg3 hq3
        have BG := Lib.hid (grown_below hg3 (fun k hk => (own_cells OE.out hk).1) (Below.size (show Below _ _ _ from hHeld)))
        have OF := Lib.hid (own_castG ho3 (Nat.zero_add n1) (show rvsL [] ++ rvsL l = rvsL l from rfl))
        (refine hK.out _ _ (OldB.then2 hHeld BG.out) (fun hHeld2 => ?_); clear hK K hHeld; have hHeld := hHeld2; clear hHeld2; try simp only [gmS])
        refine rdR 4 (fun K hK => ?_)
        refine wp_recs [r] 1 _ rfl rfl (by decide) (by decide) (by kernel_rfl) ?_
        rw [rvsL_one]
        have LR := Lib.hid (lit_rd hHeld r)
        have OF := Lib.hid (own_below OF.out ((Below.refl _ _).alloc (Nat.le_refl _) (.cells (rvL r).toArray 56)) (Nat.le_refl _))
        (refine hK.out _ _ (OldB.alloc hHeld _) (fun hHeld2 => ?_); clear hK K hHeld; have hHeld := hHeld2; clear hHeld2; try simp only [gmS])
        refine rdR 5 (fun K hK => ?_)
        refine wp_appF (.tmp 16) (.tmp 18) 22 rfl Tryz.underlying22 info_rec rfl (by decide) wd1.heap.size _ n1 (rvsL l) _ 1 1 (rvL r) (fun u hu => (Array.all_eq_true_iff_forall_mem.1 (rvW_one HR.out)) u (by simpa using hu)) rfl rfl OF.out LR.out rfl (Below.size (show Below _ _ _ from hHeld)) (by omega) (by omega) ?_
        intro v4 w4 ho4 hg4 hq4
        have BG := Lib.hid (grown_below hg4 (fun k hk => (own_cells OF.out hk).1) (Below.size (show Below _ _ _ from hHeld)))
        obtain ⟨A4, c4, rfl, hR4, -⟩ := own_slG ho4
        have R4 := Lib.hid hR4
        (refine hK.out _ _ (OldB.then2 hHeld BG.out) (fun hHeld2 => ?_); clear hK K hHeld; have hHeld := hHeld2; clear hHeld2; try simp only [gmS])
        (refine tkW 6 ?_; try simp only [gmS])
        have OQ := L1 _ hHeld
        (refine wpAnyH_done (by kernel_rfl) ?_ _; refine NoPanic.normal ?_)
        go_wp2_with fail
        go_meet
        case rel =>
          have e4 : rvsL l ++ rvL r = rvsL (l ++ [r]) := by rw [rvsL_app, rvsL_one]
          have R5 := R4.out
          rw [e4] at R5
          exact ⟨A4, c4, rfl, Lib.hid (Rw.app (A' := none) R5 (fun q hq => (H1.out.is q hq).below (BB.out _ OQ)) (fun q hq => by rw [List.mem_singleton.1 hq]; exact HR.out.below (BB.out _ OQ))), Lib.hid OQ⟩
      · skip
        rw [if_pos (by first | rfl | (simp [Region.wanted, yielded]; done))]
        refine wp_recs [r] 1 _ rfl rfl (by decide) (by decide) (by kernel_rfl) ?_
        rw [rvsL_one]
        have LR := Lib.hid (lit_rd hHeld r)
        have OE := Lib.hid (own_below OE.out ((Below.refl _ _).alloc (Nat.le_refl _) (.cells (rvL r).toArray 56)) (Nat.le_refl _))
        (refine hK.out _ _ (OldB.alloc hHeld _) (fun hHeld2 => ?_); clear hK K hHeld; have hHeld := hHeld2; clear hHeld2; try simp only [gmS])
        refine rdR 2 (fun K hK => ?_)
        refine wp_appF (.tmp 14) (.tmp 15) 22 rfl Tryz.underlying22 info_rec rfl (by decide) wd1.heap.size _ 0 (rvsL []) A n1 cA (rvsL l) (rvsW_one H1.out.is) rfl rfl OE.out (H1.out.rd.below (BB.out _ (L1 _ hHeld))) (by rw [rvsL_len, ← N1.out]) (Below.size (show Below _ _ _ from hHeld)) (by omega) (by omega) ?_
        intro v3 w3 ho3 hg3 hq3
        have BG := Lib.hid (grown_below hg3 (fun k hk => (own_cells OE.out hk).1) (Below.size (show Below _ _ _ from hHeld)))
        have OF := Lib.hid (own_castG ho3 (Nat.zero_add n1) (show rvsL [] ++ rvsL l = rvsL l from rfl))
        have LR := Lib.hid (rd_grown LR.out hg3 (by intro e; have e2 := Option.some.inj e; simp at e2; try omega))
        (refine hK.out _ _ (OldB.then2 hHeld BG.out) (fun hHeld2 => ?_); clear hK K hHeld; have hHeld := hHeld2; clear hHeld2; try simp only [gmS])
        refine rdR 5 (fun K hK => ?_)
        refine wp_appF (.tmp 16) (.tmp 18) 22 rfl Tryz.underlying22 info_rec rfl (by decide) wd1.heap.size _ n1 (rvsL l) _ 1 1 (rvL r) (fun u hu => (Array.all_eq_true_iff_forall_mem.1 (rvW_one HR.out)) u (by simpa using hu)) rfl rfl OF.out LR.out rfl (Below.size (show Below _ _ _ from hHeld)) (by omega) (by omega) ?_
        intro v4 w4 ho4 hg4 hq4
        have BG := Lib.hid (grown_below hg4 (fun k hk => (own_cells OF.out hk).1) (Below.size (show Below _ _ _ from hHeld)))
        obtain ⟨A4, c4, rfl, hR4, -⟩ := own_slG ho4
        have R4 := Lib.hid hR4
        (refine hK.out _ _ (OldB.then2 hHeld BG.out) (fun hHeld2 => ?_); clear hK K hHeld; have hHeld := hHeld2; clear hHeld2; try simp only [gmS])
        (refine tkW 6 ?_; try simp only [gmS])
        have OQ := L1 _ hHeld
        (refine wpAnyH_done (by kernel_rfl) ?_ _; refine NoPanic.normal ?_)
        go_wp2_with fail
        go_meet
        case rel =>
          have e4 : rvsL l ++ rvL r = rvsL (l ++ [r]) := by rw [rvsL_app, rvsL_one]
          have R5 := R4.out
          rw [e4] at R5
          exact ⟨A4, c4, rfl, Lib.hid (Rw.app (A' := none) R5 (fun q hq => (H1.out.is q hq).below (BB.out _ OQ)) (fun q hq => by rw [List.mem_singleton.1 hq]; exact HR.out.below (BB.out _ OQ))), Lib.hid OQ⟩
    · skip
      rw [if_pos (by first | rfl | (simp [Region.wanted, yielded]; done))]
      refine wp_recs [r] 1 _ rfl rfl (by decide) (by decide) (by kernel_rfl) ?_
      rw [rvsL_one]
      have LR := Lib.hid (lit_rd hHeld r)
      (refine hK.out _ _ (OldB.alloc hHeld _) (fun hHeld2 => ?_); clear hK K hHeld; have hHeld := hHeld2; clear hHeld2; try simp only [gmS])
      refine rdR 0 (fun K hK => ?_)
      go_simp
      have OE := Lib.hid (own_baseG (Below.size (show Below _ _ _ from hHeld)) (own_empty21 _ (cs := #[]) rfl 56))
      try simp only [World.size_alloc] at OE
      (refine hK.out _ _ (OldB.alloc hHeld _) (fun hHeld2 => ?_); clear hK K hHeld; have hHeld := hHeld2; clear hHeld2; try simp only [gmS])
      have LR := Lib.hid (LR.out.alloc (.cells #[] 56))
      refine rdR 2 (fun K hK => ?_)
      refine wp_appF (.tmp 14) (.tmp 15) 22 rfl Tryz.underlying22 info_rec rfl (by decide) wd1.heap.size _ 0 (rvsL []) A n1 cA (rvsL l) (rvsW_one H1.out.is) rfl rfl OE.out (H1.out.rd.below (BB.out _ (L1 _ hHeld))) (by rw [rvsL_len, ← N1.out]) (Below.size (show Below _ _ _ from hHeld)) (by omega) (by omega) ?_
      intro v3 w3 ho3 hg3 hq3
      have BG := Lib.hid (grown_below hg3 (fun k hk => (own_cells OE.out hk).1) (Below.size (show Below _ _ _ from hHeld)))
      have OF := Lib.hid (own_castG ho3 (Nat.zero_add n1) (show rvsL [] ++ rvsL l = rvsL l from rfl))
      have LR := Lib.hid (rd_grown LR.out hg3 (by intro e; have e2 := Option.some.inj e; simp at e2; try omega))
      (refine hK.out _ _ (OldB.then2 hHeld BG.out) (fun hHeld2 => ?_); clear hK K hHeld; have hHeld := hHeld2; clear hHeld2; try simp only [gmS])
      refine rdR 5 (fun K hK => ?_)
      refine wp_appF (.tmp 16) (.tmp 18) 22 rfl Tryz.underlying22 info_rec rfl (by decide) wd1.heap.size _ n1 (rvsL l) _ 1 1 (rvL r) (fun u hu => (Array.all_eq_true_iff_forall_mem.1 (rvW_one HR.out)) u (by simpa using hu)) rfl rfl OF.out LR.out rfl (Below.size (show Below _ _ _ from hHeld)) (by omega) (by omega) ?_
      intro v4 w4 ho4 hg4 hq4
      have BG := Lib.hid (grown_below hg4 (fun k hk => (own_cells OF.out hk).1) (Below.size (show Below _ _ _ from hHeld)))
      obtain ⟨A4, c4, rfl, hR4, -⟩ := own_slG ho4
      have R4 := Lib.hid hR4
      (refine hK.out _ _ (OldB.then2 hHeld BG.out) (fun hHeld2 => ?_); clear hK K hHeld; have hHeld := hHeld2; clear hHeld2; try simp only [gmS])
      (refine tkW 6 ?_; try simp only [gmS])
      have OQ := L1 _ hHeld
      (refine wpAnyH_done (by kernel_rfl) ?_ _; refine NoPanic.normal ?_)
      go_wp2_with fail
      go_meet
      case rel =>
        have e4 : rvsL l ++ rvL r = rvsL (l ++ [r]) := by rw [rvsL_app, rvsL_one]
        have R5 := R4.out
        rw [e4] at R5
        exact ⟨A4, c4, rfl, Lib.hid (Rw.app (A' := none) R5 (fun q hq => (H1.out.is q hq).below (BB.out _ OQ)) (fun q hq => by rw [List.mem_singleton.1 hq]; exact HR.out.below (BB.out _ OQ))), Lib.hid OQ⟩
  case rest =>
    obtain ⟨A3, c3, rfl, HL, OCH⟩ := hcut
    have OC := OCH.out
    have NA : Hid (n1 + 1 = (l ++ [r]).length) := Lib.hid (by rw [List.length_append, ← N1.out]; rfl)
    have FW := Lib.hid (few29_any A3 (n1 + 1) c3 (l ++ [r]) x wc NA.out HL.out (HX.out.below (BB.out _ OC)))
    unfold woA at FW
    have k0 : ∀ u, OldB X u → u.cell? ⟨bx, 0, none⟩ = some (.int .i64 r.kind) := fun u hu => by simpa using RR.out u hu 0 _ rfl
    go_wp2_with (refine wpList_load_mid rfl 38 (.tmp 4) rfl bw 0 rfl (woL x) _ (RX.out _ OC) Tryz.underlying38 rfl (mwo_szL x) ?_)
    (with_reducible refine FW.out.mono ?_)
    rintro e wd3 ⟨rfl, b3⟩
    have O3 : OldB X wd3 := OC.then b3
    have B3 := Lib.hid (BB.out _ O3)
    have k0u := k0 wd3 O3
    have HL3 := Lib.hid (HL.out.below b3)
    clear b3 FW HL OC OCH k0
    cases hf : (fewL (rcsC (l ++ [r])) 20 && decide (x.mods.length ≤ 60))
    · go_wp2_with fail
      go_ret
      exact ⟨rfl, B3.out⟩
    by_cases h1 : r.kind = 1
    case neg =>
      have g1 : (r.kind != 1) = true := by simpa using h1
      clear h1 hf
      go_wp2_with fail
      go_ret
      exact ⟨rfl, B3.out⟩
    have g1 : (r.kind != 1) = false := by rw [h1]; rfl
    rw [Bool.and_eq_true, decide_eq_true_eq] at hf
    obtain ⟨hf1, hf2⟩ := hf
    have RA := Lib.hid (HL3.out.rs (by decide) hf1)
    have R1 := Lib.hid (H1.out.rs (by decide) (few_of (m := l ++ [r]) (fun q hq => List.mem_append_left _ hq) (by simp) hf1))
    have ML : Hid (x.mods.length ≤ 1000000) := Lib.hid (Nat.le_trans hf2 (by decide))
    have N100 : n1 ≤ 100000 := by rw [N1.out]; exact R1.out.len
    have LB : Hid (entS x.mods (l ++ [r]) = if hasS (entS x.mods l) (idC r.c) then entS x.mods l else entS x.mods l ++ [newS r]) := Lib.hid (law_begin x.mods l r h1)
    have RI : Hid (∀ u, OldB wd3 u → RvIs u r) := Lib.hid (fun u hu => (RA.out.is r (by simp)).below hu)
    have RZ : Hid (RcSz r.c) := Lib.hid (RA.out.sz r (by simp))
    have W3 : Hid (∀ u, OldB wd3 u → WoIs u x) := Lib.hid (fun u hu => HX.out.below (B3.out.trans (Below.mono hu B3.out.size)))
    have T3 : Hid (∀ u, OldB wd3 u → Tab u) := Lib.hid (fun u hu => HT.out.keep (B3.out.trans (Below.mono hu B3.out.size)))
    have BF : Hid (∀ u, OldB wd3 u → Below w.heap.size w u) := Lib.hid (fun u hu => B3.out.trans (Below.mono hu B3.out.size))
    have RW3 : Hid (∀ u, OldB wd3 u → u.rangeAt bw 0 (woL x)) := Lib.hid (fun u hu => RX.out u (O3.then hu))
    have RR3 : Hid (∀ u, OldB wd3 u → u.rangeAt bx 0 (rvL r)) := Lib.hid (fun u hu => RR.out u (O3.then hu))
    have SA := Lib.hid (fun u (hu : OldB wd3 u) => status_any A n1 cA l x u N1.out (R1.out.below (BF.out u hu)) (W3.out u hu) ML.out (T3.out u hu))
    have SB := Lib.hid (fun u (hu : OldB wd3 u) => status_any A3 (n1 + 1) c3 (l ++ [r]) x u NA.out (RA.out.below hu) (W3.out u hu) ML.out (T3.out u hu))
    have IDC := Lib.hid (fun u (hu : OldB wd3 u) => id_any r u (RI.out u hu) RZ.out (T3.out u hu))
    have OFC := Lib.hid (fun u (hu : OldB wd3 u) => of_any A n1 cA l x (idC r.c) u N1.out (R1.out.below (BF.out u hu)) (W3.out u hu) ML.out (Nat.le_trans (idC_len r.c) (by decide)) (T3.out u hu))
    unfold woA at SA SB OFC
    unfold rvA at IDC
    have VO : Hid ((ofV (ofS (entS x.mods l) (idC r.c))).size = 4 ∧ (ofV (ofS (entS x.mods l) (idC r.c))).all (·.oneCell') = true) := Lib.hid (ofV_ok (fun e he => by
      obtain ⟨A9, c9, e9, -⟩ := (R1.out.is _ (entS_from _ _ e he).cur).ed
      exact ⟨A9, c9, e9⟩))
    have DL : Hid (∀ e ∈ entS x.mods l, ∀ u, OldB wd3 u → EdIs u e.cur) := Lib.hid (fun e he u hu => ((R1.out.is _ (entS_from _ _ e he).cur).below (BF.out u hu)).ed)
    have DR : Hid (∀ u, OldB wd3 u → EdIs u r) := Lib.hid (fun u hu => (RI.out u hu).ed)
    have LL : Hid ((entS x.mods l).length ≤ 100000) := Lib.hid (Nat.le_trans (entS_len _ _) R1.out.len)
    generalize entS x.mods (l ++ [r]) = fs at *
    generalize entS x.mods l = es at *
    clear hf1 hf2 h1 RX RR BB H1 HX HR HT
    go_upto_region 5 with fail
    (refine wp_region_noPanic ?_; refine wp_region_held_drew (S := (OldB wd3)) (by kernel_rfl) ?_ (fun hHeld => ?_); exact Below.drew (Below.refl _ _))
    (refine tkW 0 ?_; try simp only [gmS])
    (refine ldW 1 38 (.tmp 4) bw 0 (woL x) _ RW3.out Tryz.underlying38 (mwo_szL x) ?_; try simp only [gmS])
    (refine tkW 3 ?_; try simp only [gmS])
    (refine ldW 4 38 (.tmp 4) bw 0 (woL x) _ RW3.out Tryz.underlying38 (mwo_szL x) ?_; try simp only [gmS])
    refine rdR 2 (fun K hK => ?_)
    go_simp
    (with_reducible refine (SA.out _ hHeld).mono ?_)
    rintro e v1 ⟨a1, rfl, ho1, t1⟩
    obtain ⟨A9, c9, rfl, hR9, hc9⟩ := own_slG ho1
    (refine hK.out _ _ (OldB.then hHeld t1) (fun hHeld2 => ?_); clear hK K hHeld; have hHeld := hHeld2; clear hHeld2; try simp only [gmS])
    refine rdR 5 (fun K hK => ?_)
    go_simp
    (with_reducible refine (SB.out _ hHeld).mono ?_)
    rintro e v2 ⟨a2, rfl, ho2, t2⟩
    obtain ⟨A10, c10, rfl, hR10, hc10⟩ := own_slG ho2
    have R9 := Lib.hid (hR9.below t2)
    have R10 := Lib.hid hR10
    (refine hK.out _ _ (OldB.then hHeld t2) (fun hHeld2 => ?_); clear hK K hHeld; have hHeld := hHeld2; clear hHeld2; try simp only [gmS])
    (refine tkW 6 ?_; try simp only [gmS])
    (refine tkW 7 ?_; try simp only [gmS])
    have O5 : OldB wd3 v2 := hHeld
    have L5 : ∀ u, OldB v2 u → OldB wd3 u := fun u hu => O5.then hu
    (refine wpAnyH_done (by kernel_rfl) ?_ _; refine NoPanic.normal ?_)
    clear hHeld ho1 ho2 t1 t2 hR9 hR10 SA SB
    go_upto_region 6 with fail
    go_cut [12] (fun s12 wx => s12 = .bool (hasS es (idC r.c)) ∧ Hid (OldB v2 wx))
    case first =>
      generalize hasS es (idC r.c) = hb at *
      generalize ofV (ofS es (idC r.c)) = ov at *
      generalize mkB (idC r.c) = kv at *
      (refine wp_region_noPanic ?_; refine wp_region_held_drew (S := (OldB v2)) (by kernel_rfl) ?_ (fun hHeld => ?_); exact Below.drew (Below.refl _ _))
      generalize v2.drew = ud at *
      (refine tkW 0 ?_; try simp only [gmS])
      (refine ldW 1 38 (.tmp 4) bw 0 (woL x) _ (fun v hv => RW3.out v (O5.then hv)) Tryz.underlying38 (mwo_szL x) ?_; try simp only [gmS])
      (refine ldW 2 56 (.tmp 5) bx 0 (rvL r) _ (fun v hv => RR3.out v (O5.then hv)) Tryz.underlying56 (mrec_szL r) ?_; try simp only [gmS])
      (refine wpAnyH_ready (rs := [3, 8]) (by kernel_rfl) (by simp) ?_; refine AllReadyH.cons (o := _) rfl (fun K hK => ?_) (AllReadyH.cons (o := _) rfl (fun K hK => ?_) AllReadyH.nil))
      · skip
        go_simp
        (with_reducible refine (IDC.out _ (L5 _ hHeld)).mono ?_)
        rintro e y1 ⟨rfl, s1⟩
        (refine hK.out _ _ (OldB.then hHeld s1) (fun hHeld2 => ?_); clear hK K hHeld; have hHeld := hHeld2; clear hHeld2; try simp only [gmS])
        (refine wpAnyH_ready (rs := [4, 8]) (by kernel_rfl) (by simp) ?_; refine AllReadyH.cons (o := _) rfl (fun K hK => ?_) (AllReadyH.cons (o := _) rfl (fun K hK => ?_) AllReadyH.nil))
        · skip
          go_simp
          (with_reducible refine (OFC.out _ (L5 _ hHeld)).mono ?_)
          rintro e y2 ⟨rfl, s2⟩
          (refine hK.out _ _ (OldB.then hHeld s2) (fun hHeld2 => ?_); clear hK K hHeld; have hHeld := hHeld2; clear hHeld2; try simp only [gmS])
          (refine tkW 5 ?_; try simp only [gmS])
          (refine tkW 6 ?_; try simp only [gmS])
          (refine tkW 7 ?_; try simp only [gmS])
          refine rdR 8 (fun K hK => ?_)
          go_simp
          have hp := Below.size (show Below _ _ _ from hHeld)
          try simp only [World.size_alloc, World.size_drew] at hp
          have hp := Lib.hid hp
          (refine hK.out _ _ (OldB.alloc hHeld _) (fun hHeld2 => ?_); clear hK K hHeld; have hHeld := hHeld2; clear hHeld2; try simp only [gmS])
          have XA := Lib.hid (box4_new hHeld)
          try simp only [World.size_alloc] at XA
          refine rdR 9 (fun K hK => ?_)
          refine wp_store_mid 42 (.tmp 11) (.tmp 42) rfl _ 0 ov rfl rfl (there_of_row XA.out (by rw [VO.out.1]; exact Nat.le_refl 4)) (by rw [VO.out.1]; kernel_rfl) VO.out.2 ?_
          have D4 := Lib.hid (done4 ov hHeld XA.out hp.out (by rw [VO.out.1]; rfl))
          have D41 := D4.out.1
          (refine hK.out _ _ D41 (fun hHeld2 => ?_); clear hK K hHeld; have hHeld := hHeld2; clear hHeld2; try simp only [gmS])
          (refine tkW 10 ?_; try simp only [gmS])
          have OZ := hHeld
          (refine wpAnyH_done (by kernel_rfl) ?_ _; refine NoPanic.normal ?_)
          go_wp2_with fail
          go_meet
          case rel => exact ⟨rfl, Lib.hid OZ⟩
        · skip
          go_simp
          have hp := Below.size (show Below _ _ _ from hHeld)
          try simp only [World.size_alloc, World.size_drew] at hp
          have hp := Lib.hid hp
          (refine hK.out _ _ (OldB.alloc hHeld _) (fun hHeld2 => ?_); clear hK K hHeld; have hHeld := hHeld2; clear hHeld2; try simp only [gmS])
          have XA := Lib.hid (box4_new hHeld)
          try simp only [World.size_alloc] at XA
          refine rdR 4 (fun K hK => ?_)
          go_simp
          (with_reducible refine (OFC.out _ (L5 _ hHeld)).mono ?_)
          rintro e y2 ⟨rfl, s2⟩
          have XA := Lib.hid ((s2.block _ (lt_of_block XA.out)).trans XA.out)
          (refine hK.out _ _ (OldB.then hHeld s2) (fun hHeld2 => ?_); clear hK K hHeld; have hHeld := hHeld2; clear hHeld2; try simp only [gmS])
          (refine tkW 5 ?_; try simp only [gmS])
          (refine tkW 6 ?_; try simp only [gmS])
          (refine tkW 7 ?_; try simp only [gmS])
          refine rdR 9 (fun K hK => ?_)
          refine wp_store_mid 42 (.tmp 11) (.tmp 42) rfl _ 0 ov rfl rfl (there_of_row XA.out (by rw [VO.out.1]; exact Nat.le_refl 4)) (by rw [VO.out.1]; kernel_rfl) VO.out.2 ?_
          have D4 := Lib.hid (done4 ov hHeld XA.out hp.out (by rw [VO.out.1]; rfl))
          have D41 := D4.out.1
          (refine hK.out _ _ D41 (fun hHeld2 => ?_); clear hK K hHeld; have hHeld := hHeld2; clear hHeld2; try simp only [gmS])
          (refine tkW 10 ?_; try simp only [gmS])
          have OZ := hHeld
          (refine wpAnyH_done (by kernel_rfl) ?_ _; refine NoPanic.normal ?_)
          go_wp2_with fail
          go_meet
          case rel => exact ⟨rfl, Lib.hid OZ⟩
      · skip
        go_simp
        have hp := Below.size (show Below _ _ _ from hHeld)
        try simp only [World.size_alloc, World.size_drew] at hp
        have hp := Lib.hid hp
        (refine hK.out _ _ (OldB.alloc hHeld _) (fun hHeld2 => ?_); clear hK K hHeld; have hHeld := hHeld2; clear hHeld2; try simp only [gmS])
        have XA := Lib.hid (box4_new hHeld)
        try simp only [World.size_alloc] at XA
        refine rdR 3 (fun K hK => ?_)
        go_simp
        (with_reducible refine (IDC.out _ (L5 _ hHeld)).mono ?_)
        rintro e y1 ⟨rfl, s1⟩
        have XA := Lib.hid ((s1.block _ (lt_of_block XA.out)).trans XA.out)
        (refine hK.out _ _ (OldB.then hHeld s1) (fun hHeld2 => ?_); clear hK K hHeld; have hHeld := hHeld2; clear hHeld2; try simp only [gmS])
        refine rdR 4 (fun K hK => ?_)
        go_simp
        (with_reducible refine (OFC.out _ (L5 _ hHeld)).mono ?_)
        rintro e y2 ⟨rfl, s2⟩
        have XA := Lib.hid ((s2.block _ (lt_of_block XA.out)).trans XA.out)
        (refine hK.out _ _ (OldB.then hHeld s2) (fun hHeld2 => ?_); clear hK K hHeld; have hHeld := hHeld2; clear hHeld2; try simp only [gmS])
        (refine tkW 5 ?_; try simp only [gmS])
        (refine tkW 6 ?_; try simp only [gmS])
        (refine tkW 7 ?_; try simp only [gmS])
        refine rdR 9 (fun K hK => ?_)
        refine wp_store_mid 42 (.tmp 11) (.tmp 42) rfl _ 0 ov rfl rfl (there_of_row XA.out (by rw [VO.out.1]; exact Nat.le_refl 4)) (by rw [VO.out.1]; kernel_rfl) VO.out.2 ?_
        have D4 := Lib.hid (done4 ov hHeld XA.out hp.out (by rw [VO.out.1]; rfl))
        have D41 := D4.out.1
        (refine hK.out _ _ D41 (fun hHeld2 => ?_); clear hK K hHeld; have hHeld := hHeld2; clear hHeld2; try simp only [gmS])
        (refine tkW 10 ?_; try simp only [gmS])
        have OZ := hHeld
        (refine wpAnyH_done (by kernel_rfl) ?_ _; refine NoPanic.normal ?_)
        go_wp2_with fail
        go_meet
        case rel => exact ⟨rfl, Lib.hid OZ⟩
    case rest =>
      obtain ⟨rfl, OWH⟩ := hcut
      have OW := OWH.out
      clear OWH OFC VO
      have L6 : ∀ u, OldB wc u → OldB wd3 u := fun u hu => L5 u (OW.then hu)
      obtain ⟨n9, hn9⟩ : ∃ n9, n9 = es.length := ⟨_, rfl⟩
      have N9 := Lib.hid hn9
      have n9le : n9 ≤ 100000 := by rw [hn9]; exact LL.out
      rw [← hn9] at hc9 ⊢
      clear hn9
      cases hq : hasS es (idC r.c)
      · have LB2 := LB.out
        rw [hq, if_neg (by decide)] at LB2
        subst LB2
        have FL : (es ++ [newS r]).length = n9 + 1 := by rw [List.length_append, ← N9.out]; rfl
        rw [FL] at hc10 ⊢
        have R10b := R10.out.below OW
        obtain ⟨g10, o10, rfl, hg10, h10⟩ := rd_rows 4 (by decide) (fun _ => rfl) R10b (k := n9) (by rw [FL]; omega)
        have gn : (es ++ [newS r])[n9]'(by rw [FL]; omega) = newS r := by
          rw [List.getElem_append_right (by rw [← N9.out]; exact Nat.le_refl _)]
          simp [← N9.out]
        rw [gn] at h10
        obtain ⟨A1, c1, v1, hEs⟩ := DR.out wc (L6 wc (Below.refl _ _))
        have E8 : stL (newS r) = [.string (mkB (idC r.c)), .int .i64 1, .string ⟨#[]⟩, .slice A1 r.edits.length c1] := by unfold stL newS; dsimp only; rw [v1]; rfl
        rw [E8] at h10
        have LA := Lib.hid (rangeAt_old hg10 h10)
        have ZS : (Tryz.prog.info? 42).map (·.size) = some ([.string (mkB (idC r.c)), .int .i64 1, .string ⟨#[]⟩, .slice A1 r.edits.length c1] : List Value).length := by kernel_rfl
        have AL : Hid (∀ u, OldB wc u → Calls Tryz.prog 31 #[.slice A9 n9 c9, .slice (some ⟨g10, o10, none⟩) n9 c10] u fun e w' => e = .returned (.bool true) ∧ Below u.heap.size u w') := Lib.hid (fun u hu => by
          have hp := R10b.pre (n9 * 4)
          have ht : (stsL (es ++ [newS r])).take (n9 * 4) = stsL es := by
            rw [stsL_app, List.take_append_of_le_length (by rw [stsL_len, ← N9.out]; exact Nat.le_refl _), List.take_of_length_le (by rw [stsL_len, ← N9.out]; exact Nat.le_refl _)]
          rw [ht] at hp
          have := all29_any A9 (some ⟨g10, o10, none⟩) c9 c10 es es n9 n9 u N9.out N9.out (by omega) (by omega) (R9.out.below (OW.then hu)) (hp.below hu) (fun e he => DL.out e he u (L6 u hu)) (fun e he => DL.out e he u (L6 u hu))
          rw [sameXs_refl] at this
          exact this)
        have SM : Hid (∀ u, OldB wc u → Calls Tryz.prog 34 #[.agg #[.string (mkB (idC r.c)), .int .i64 1, .string ⟨#[]⟩, .slice A1 r.edits.length c1], .agg #[.string (mkB (idC r.c)), .int .i64 1, .string ⟨#[]⟩, .slice A1 r.edits.length c1]] u fun e w' => e = .returned (.bool true) ∧ Below u.heap.size u w') := Lib.hid (fun u hu => by
          have ed : EdIs u (newS r).cur := DR.out u (L6 u hu)
          have := same29_any (newS r) (newS r) u ed ed
          rw [sameX_refl, E8] at this
          exact this)
        have k6 : ∀ u, OldB wc u → u.cell? ⟨bx, 6, none⟩ = some (.slice A1 r.edits.length c1) := fun u hu => by rw [← v1]; simpa using RR3.out u (L6 u hu) 6 _ rfl
        have IDW : Hid (∀ u, OldB wc u → Calls Tryz.prog 37 #[.agg (rvL r).toArray] u fun e w' => e = .returned (.string (mkB (idC r.c))) ∧ Below u.heap.size u w') := Lib.hid (fun u hu => IDC.out u (L6 u hu))
        have RRW : Hid (∀ u, OldB wc u → u.rangeAt bx 0 (rvL r)) := Lib.hid (fun u hu => RR3.out u (L6 u hu))
        have BW6 : Hid (∀ u, OldB wc u → Below w.heap.size w u) := Lib.hid (fun u hu => BF.out u (L6 u hu))
        have f1 : (((n9 + 1 : Nat) : Int) != (n9 : Int) + 1) = false := by simp
        have f2 : n9 ≤ c10 := by omega
        have f3 : (n9 : Int) ≤ (c10 : Int) := by omega
        have f4 : n9 < n9 + 1 := by omega
        have f5 : (n9 : Int) < ((n9 + 1 : Nat) : Int) := by omega
        have f6 : (0 : Int) ≤ (n9 : Int) := by omega
        have f7 : (n9 : Int) < (n9 : Int) + 1 := by omega
        clear hq hg10 h10 gn R10b DR DL R9 R10 IDC RR3 E8 v1 hEs LB FL HL3 RA R1
        generalize mkB (idC r.c) = kv at *
        go_upto_region 11 with fail
        (refine wp_region_noPanic ?_; refine wp_region_held_drew (S := (OldB wc)) (by kernel_rfl) ?_ (fun hHeld => ?_); exact Below.drew (Below.refl _ _))
        (refine tkW 0 ?_; try simp only [gmS])
        (refine tkW 1 ?_; try simp only [gmS])
        (refine tkW 2 ?_; try simp only [gmS])
        (refine tkW 3 ?_; try simp only [gmS])
        (refine tkW 4 ?_; try simp only [gmS])
        (refine tkW 5 ?_; try simp only [gmS])
        (refine tkW 6 ?_; try simp only [gmS])
        refine rdR 7 (fun K hK => ?_)
        go_simp
        (with_reducible refine (AL.out _ hHeld).mono ?_)
        rintro e z1 ⟨rfl, s1⟩
        (refine hK.out _ _ (OldB.then hHeld s1) (fun hHeld2 => ?_); clear hK K hHeld; have hHeld := hHeld2; clear hHeld2; try simp only [gmS])
        (refine tkW 8 ?_; try simp only [gmS])
        (refine tkW 9 ?_; try simp only [gmS])
        (refine tkW 10 ?_; try simp only [gmS])
        (refine tkW 11 ?_; try simp only [gmS])
        (refine tkW 12 ?_; try simp only [gmS])
        (refine tkW 13 ?_; try simp only [gmS])
        (refine ldW 14 42 (.tmp 70) g10 (o10 + n9 * 4) _ _ LA.out Tryz.underlying42 ZS ?_; try simp only [gmS])
        (refine ldW 15 56 (.tmp 5) bx 0 (rvL r) _ RRW.out Tryz.underlying56 (mrec_szL r) ?_; try simp only [gmS])
        (refine tkW 17 ?_; try simp only [gmS])
        (refine tkW 18 ?_; try simp only [gmS])
        refine rdR 16 (fun K hK => ?_)
        go_simp
        (with_reducible refine (IDW.out _ hHeld).mono ?_)
        rintro e z2 ⟨rfl, s2⟩
        (refine hK.out _ _ (OldB.then hHeld s2) (fun hHeld2 => ?_); clear hK K hHeld; have hHeld := hHeld2; clear hHeld2; try simp only [gmS])
        (refine tkW 19 ?_; try simp only [gmS])
        refine rdR 20 (fun K hK => ?_)
        go_simp
        (with_reducible refine (SM.out _ hHeld).mono ?_)
        rintro e z3 ⟨rfl, s3⟩
        (refine hK.out _ _ (OldB.then hHeld s3) (fun hHeld2 => ?_); clear hK K hHeld; have hHeld := hHeld2; clear hHeld2; try simp only [gmS])
        (refine tkW 21 ?_; try simp only [gmS])
        (refine tkW 22 ?_; try simp only [gmS])
        have FF := Lib.hid (BW6.out _ hHeld)
        (refine wpAnyH_done (by kernel_rfl) ?_ _; refine NoPanic.normal ?_)
        go_wp2_with fail
        go_ret
        exact ⟨rfl, FF.out⟩
      · have LB2 := LB.out
        rw [hq, if_pos rfl] at LB2
        subst LB2
        have AL : Hid (Calls Tryz.prog 31 #[.slice A9 n9 c9, .slice A10 n9 c10] wc fun e w' => e = .returned (.bool true) ∧ Below wc.heap.size wc w') := Lib.hid (by
          have := all29_any A9 A10 c9 c10 fs fs n9 n9 wc N9.out N9.out (by omega) (by omega) (R9.out.below OW) (R10.out.below OW) (fun e he => DL.out e he wc (L6 wc (Below.refl _ _))) (fun e he => DL.out e he wc (L6 wc (Below.refl _ _)))
          rw [sameXs_refl] at this
          exact this)
        rw [← N9.out]
        have BW6 := Lib.hid (BF.out wc (L6 wc (Below.refl _ _)))
        clear hq LB
        go_wp2_with fail
        (with_reducible refine AL.out.mono ?_)
        rintro e z1 ⟨rfl, s1⟩
        have FF := Lib.hid (BW6.out.trans (s1.mono BW6.out.size))
        clear s1 AL
        go_wp2_with fail
        go_ret
        exact ⟨rfl, FF.out⟩
end Go.Proofs.YtniklmikdkjgiaaGreatDoor
