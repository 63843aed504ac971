import Derived.Test.YtniklmikdkjgiaaGreatDoorCLD
import Derived.Test.YtniklmikdkjgiaaGreatDoorETQ
import Derived.Test.YtniklmikdkjgiaaGreatDoorGTR
import Derived.Test.YtniklmikdkjgiaaGreatDoorGXO
import Derived.Test.YtniklmikdkjgiaaGreatDoorWD
set_option linter.all false
set_option maxHeartbeats 16000000
set_option maxRecDepth 100000
namespace Go.Proofs.YtniklmikdkjgiaaGreatDoor
open Go.RowKit
theorem same_refl_ev (l:List EV):all2 (fun x y=>sameE x.c y.c) l l = true:=by
 rw [← all2_map (f:=sameE) EV.c EV.c]
 exact (all2_eq sameE_iff).2 rfl
theorem stOf_at {o:Int}:(o = 1 → stOf o = 1) ∧ (o = 2 → stOf o = 2) ∧ (o = 3 → stOf o = 1) ∧ (o = 4 → stOf o = 3):=by
 refine ⟨?_,?_,?_,?_⟩ <;> (rintro rfl; rfl)
theorem sta_sz (e:Sx):(Tryz.prog.info? 42).map (·.size) = some (stL e).length:=by kernel_rfl
theorem walk_ModerateLast (A:Option Addr) (cA:Nat) (l:List RV) (x:WoV) (r:RV) (w:World) (h:Rw w A l) (hz:l.length * 336 ≤ 140737488351232) (hx:WoIs w x) (hr:RvW w r) (ht:Tab w) :
  Calls Tryz.prog 7 #[.slice A l.length cA,woA x,rvA r] w fun e w'=>e = .returned (.bool true) ∧ Below w.heap.size w w':=by
 unfold woA rvA
 obtain ⟨n1,hn1⟩:∃ n1,n1 = l.length:=⟨_,rfl⟩
 have N1:=Lib.hid hn1
 rw [← hn1] at hz ⊢
 obtain ⟨X,hX⟩:∃ X,X = (w.alloc (.cells (woL x).toArray 38)).alloc (.cells (rvL r).toArray 56):=⟨_,rfl⟩
 obtain ⟨bw,hbw⟩:∃ bw,w.heap.size = bw:=⟨_,rfl⟩
 obtain ⟨bx,hbx⟩:∃ bx,w.heap.size + 1 = bx:=⟨_,rfl⟩
 have BX:Below w.heap.size w X:=by rw [hX]; exact ((Below.refl _ _).alloc (Nat.le_refl _) _).alloc (by simp) _
 have XW:X.heap[bw]? = some (.cells (woL x).toArray 38 (0,0)):=by rw [hX,← hbw]; exact (alloc_old _ _ (by simp)).trans (heap_alloc_new w _)
 have XR:X.heap[bx]? = some (.cells (rvL r).toArray 56 (0,0)):=by rw [hX,← hbx]; exact alloc_new' _ _ _ (by simp)
 have RX:Hid (∀ u,OldB X u → u.rangeAt bw 0 (woL x)):=Lib.hid (fun u hu=>by have:=range_of_row ((hu.block bw (lt_of_block XW)).trans XW); simpa using this)
 have RR:Hid (∀ u,OldB X u → u.rangeAt bx 0 (rvL r)):=Lib.hid (fun u hu=>by have:=range_of_row ((hu.block bx (lt_of_block XR)).trans XR); simpa using this)
 have HD:=Lib.hid (head29_any X (ht.keep BX))
 have BB:Hid (∀ u,OldB X u → Below w.heap.size w u):=Lib.hid (fun u hu=>BX.trans (Below.mono hu BX.size))
 have H1:=Lib.hid h
 have HX:=Lib.hid hx
 have HR:=Lib.hid hr
 have HT:=Lib.hid ht
 have hbw2:=Lib.hid hbw
 have hbx2:=Lib.hid hbx
 have X0:=Lib.hid hX
 clear hn1 hX hbw hbx BX XW XR h hx ht hr
 go_enter Tryz.func7, Tryz.ntmps7
 go_upto_region 1 with fail
 rw [← X0.out,hbx2.out,hbw2.out]
 clear X0
 go_wp2_with fail
 (with_reducible refine HD.out.mono ?_)
 rintro e wd1 ⟨rfl,b1⟩
 have O1:OldB X wd1:=b1
 have L1:∀ u,OldB wd1 u → OldB X u:=fun u hu=>O1.then hu
 clear b1 HD
 go_upto_region 2 with fail
 go_cut [8] (fun s8 wx=>∃ A3 c3,s8 = .slice A3 (n1 + 1) c3 ∧ Hid (Rw wx A3 (l ++ [r])) ∧ Hid (OldB X wx))
 case first =>
  (refine wp_region_noPanic ?_; refine wp_region_held_drew (S := (OldB wd1)) (by kernel_rfl) ?_ (fun hHeld => ?_); exact Below.drew (Below.refl _ _))
  generalize wd1.drew = ud at *
  (refine tkW 1 ?_; try simp only [gmS])
  (refine ldW 3 56 (.tmp 5) bx 0 (rvL r) _ (fun v hv => RR.out v (O1.then hv)) Tryz.underlying56 (mrec_szL r) ?_; try simp only [gmS])
  (refine wpAnyH_ready (rs := [0, 4]) (by kernel_rfl) (by simp) ?_; refine AllReadyH.cons (o := _) rfl (fun K hK => ?_) (AllReadyH.cons (o := _) rfl (fun K hK => ?_) AllReadyH.nil))
  ·skip
   go_simp
   have OE:=Lib.hid (own_baseG (Below.size (show Below _ _ _ from hHeld)) (own_empty21 _ (cs:=#[]) rfl 56))
   try simp only [World.size_alloc] at OE
   (refine hK.out _ _ (OldB.alloc hHeld _) (fun hHeld2 => ?_); clear hK K hHeld; have hHeld := hHeld2; clear hHeld2; try simp only [gmS])
   (refine wpAnyH_ready (rs := [2, 4]) (by kernel_rfl) (by simp) ?_; refine AllReadyH.cons (o := _) rfl (fun K hK => ?_) (AllReadyH.cons (o := _) rfl (fun K hK => ?_) AllReadyH.nil))
   ·skip
    rw [if_pos (by first | rfl | (simp [Region.wanted,yielded]; done))]
    refine wp_appF (.tmp 16) (.tmp 17) 22 rfl Tryz.underlying22 info_rec rfl (by decide) wd1.heap.size _ 0 (rvsL []) A n1 cA (rvsL l) (rvsW_one H1.out.is) rfl rfl OE.out (H1.out.rd.below (BB.out _ (L1 _ hHeld))) (by rw [rvsL_len,← N1.out]) (Below.size (show Below _ _ _ from hHeld)) (by omega) (by omega) ?_
    intro v3 w3 ho3 hg3 hq3
    have BG:=Lib.hid (grown_below hg3 (fun k hk=>(own_cells OE.out hk).1) (Below.size (show Below _ _ _ from hHeld)))
    have OF:=Lib.hid (own_castG ho3 (Nat.zero_add n1) (show rvsL [] ++ rvsL l = rvsL l from rfl))
    (refine hK.out _ _ (OldB.then2 hHeld BG.out) (fun hHeld2 => ?_); clear hK K hHeld; have hHeld := hHeld2; clear hHeld2; try simp only [gmS])
    refine rdR 4 (fun K hK=>?_)
    refine wp_recs [r] 1 _ rfl rfl (by decide) (by decide) (by kernel_rfl) ?_
    rw [rvsL_one]
    have LR:=Lib.hid (lit_rd hHeld r)
    have OF:=Lib.hid (own_below OF.out ((Below.refl _ _).alloc (Nat.le_refl _) (.cells (rvL r).toArray 56)) (Nat.le_refl _))
    (refine hK.out _ _ (OldB.alloc hHeld _) (fun hHeld2 => ?_); clear hK K hHeld; have hHeld := hHeld2; clear hHeld2; try simp only [gmS])
    refine rdR 5 (fun K hK=>?_)
    refine wp_appF (.tmp 18) (.tmp 20) 22 rfl Tryz.underlying22 info_rec rfl (by decide) wd1.heap.size _ n1 (rvsL l) _ 1 1 (rvL r) (fun u hu=>(Array.all_eq_true_iff_forall_mem.1 (rvW_one HR.out)) u (by simpa using hu)) rfl rfl OF.out LR.out rfl (Below.size (show Below _ _ _ from hHeld)) (by omega) (by omega) ?_
    intro v4 w4 ho4 hg4 hq4
    have BG:=Lib.hid (grown_below hg4 (fun k hk=>(own_cells OF.out hk).1) (Below.size (show Below _ _ _ from hHeld)))
    obtain ⟨A4,c4,rfl,hR4,-⟩:=own_slG ho4
    have R4:=Lib.hid hR4
    (refine hK.out _ _ (OldB.then2 hHeld BG.out) (fun hHeld2 => ?_); clear hK K hHeld; have hHeld := hHeld2; clear hHeld2; try simp only [gmS])
    (refine tkW 6 ?_; try simp only [gmS])
    have OQ:=L1 _ hHeld
    (refine wpAnyH_done (by kernel_rfl) ?_ _; refine NoPanic.normal ?_)
    go_wp2_with fail
    go_meet
    case rel =>
     have e4:rvsL l ++ rvL r = rvsL (l ++ [r]):=by rw [rvsL_app,rvsL_one]
     have R5:=R4.out
     rw [e4] at R5
     exact ⟨A4,c4,rfl,Lib.hid (Rw.app (A':=none) R5 (fun q hq=>(H1.out.is q hq).below (BB.out _ OQ)) (fun q hq=>by rw [List.mem_singleton.1 hq]; exact HR.out.below (BB.out _ OQ))),Lib.hid OQ⟩
   ·skip
    rw [if_pos (by first | rfl | (simp [Region.wanted,yielded]; done))]
    refine wp_recs [r] 1 _ rfl rfl (by decide) (by decide) (by kernel_rfl) ?_
    rw [rvsL_one]
    have LR:=Lib.hid (lit_rd hHeld r)
    have OE:=Lib.hid (own_below OE.out ((Below.refl _ _).alloc (Nat.le_refl _) (.cells (rvL r).toArray 56)) (Nat.le_refl _))
    (refine hK.out _ _ (OldB.alloc hHeld _) (fun hHeld2 => ?_); clear hK K hHeld; have hHeld := hHeld2; clear hHeld2; try simp only [gmS])
    refine rdR 2 (fun K hK=>?_)
    refine wp_appF (.tmp 16) (.tmp 17) 22 rfl Tryz.underlying22 info_rec rfl (by decide) wd1.heap.size _ 0 (rvsL []) A n1 cA (rvsL l) (rvsW_one H1.out.is) rfl rfl OE.out (H1.out.rd.below (BB.out _ (L1 _ hHeld))) (by rw [rvsL_len,← N1.out]) (Below.size (show Below _ _ _ from hHeld)) (by omega) (by omega) ?_
    intro v3 w3 ho3 hg3 hq3
    have BG:=Lib.hid (grown_below hg3 (fun k hk=>(own_cells OE.out hk).1) (Below.size (show Below _ _ _ from hHeld)))
    have OF:=Lib.hid (own_castG ho3 (Nat.zero_add n1) (show rvsL [] ++ rvsL l = rvsL l from rfl))
    have LR:=Lib.hid (rd_grown LR.out hg3 (by intro e; have e2:=Option.some.inj e; simp at e2; try omega))
    (refine hK.out _ _ (OldB.then2 hHeld BG.out) (fun hHeld2 => ?_); clear hK K hHeld; have hHeld := hHeld2; clear hHeld2; try simp only [gmS])
    refine rdR 5 (fun K hK=>?_)
    refine wp_appF (.tmp 18) (.tmp 20) 22 rfl Tryz.underlying22 info_rec rfl (by decide) wd1.heap.size _ n1 (rvsL l) _ 1 1 (rvL r) (fun u hu=>(Array.all_eq_true_iff_forall_mem.1 (rvW_one HR.out)) u (by simpa using hu)) rfl rfl OF.out LR.out rfl (Below.size (show Below _ _ _ from hHeld)) (by omega) (by omega) ?_
    intro v4 w4 ho4 hg4 hq4
    have BG:=Lib.hid (grown_below hg4 (fun k hk=>(own_cells OF.out hk).1) (Below.size (show Below _ _ _ from hHeld)))
    obtain ⟨A4,c4,rfl,hR4,-⟩:=own_slG ho4
    have R4:=Lib.hid hR4
    (refine hK.out _ _ (OldB.then2 hHeld BG.out) (fun hHeld2 => ?_); clear hK K hHeld; have hHeld := hHeld2; clear hHeld2; try simp only [gmS])
    (refine tkW 6 ?_; try simp only [gmS])
    have OQ:=L1 _ hHeld
    (refine wpAnyH_done (by kernel_rfl) ?_ _; refine NoPanic.normal ?_)
    go_wp2_with fail
    go_meet
    case rel =>
     have e4:rvsL l ++ rvL r = rvsL (l ++ [r]):=by rw [rvsL_app,rvsL_one]
     have R5:=R4.out
     rw [e4] at R5
     exact ⟨A4,c4,rfl,Lib.hid (Rw.app (A':=none) R5 (fun q hq=>(H1.out.is q hq).below (BB.out _ OQ)) (fun q hq=>by rw [List.mem_singleton.1 hq]; exact HR.out.below (BB.out _ OQ))),Lib.hid OQ⟩
  ·skip
   rw [if_pos (by first | rfl | (simp [Region.wanted,yielded]; done))]
   refine wp_recs [r] 1 _ rfl rfl (by decide) (by decide) (by kernel_rfl) ?_
   rw [rvsL_one]
   have LR:=Lib.hid (lit_rd hHeld r)
   (refine hK.out _ _ (OldB.alloc hHeld _) (fun hHeld2 => ?_); clear hK K hHeld; have hHeld := hHeld2; clear hHeld2; try simp only [gmS])
   refine rdR 0 (fun K hK=>?_)
   go_simp
   have OE:=Lib.hid (own_baseG (Below.size (show Below _ _ _ from hHeld)) (own_empty21 _ (cs:=#[]) rfl 56))
   try simp only [World.size_alloc] at OE
   (refine hK.out _ _ (OldB.alloc hHeld _) (fun hHeld2 => ?_); clear hK K hHeld; have hHeld := hHeld2; clear hHeld2; try simp only [gmS])
   have LR:=Lib.hid (LR.out.alloc (.cells #[] 56))
   refine rdR 2 (fun K hK=>?_)
   refine wp_appF (.tmp 16) (.tmp 17) 22 rfl Tryz.underlying22 info_rec rfl (by decide) wd1.heap.size _ 0 (rvsL []) A n1 cA (rvsL l) (rvsW_one H1.out.is) rfl rfl OE.out (H1.out.rd.below (BB.out _ (L1 _ hHeld))) (by rw [rvsL_len,← N1.out]) (Below.size (show Below _ _ _ from hHeld)) (by omega) (by omega) ?_
   intro v3 w3 ho3 hg3 hq3
   have BG:=Lib.hid (grown_below hg3 (fun k hk=>(own_cells OE.out hk).1) (Below.size (show Below _ _ _ from hHeld)))
   have OF:=Lib.hid (own_castG ho3 (Nat.zero_add n1) (show rvsL [] ++ rvsL l = rvsL l from rfl))
   have LR:=Lib.hid (rd_grown LR.out hg3 (by intro e; have e2:=Option.some.inj e; simp at e2; try omega))
   (refine hK.out _ _ (OldB.then2 hHeld BG.out) (fun hHeld2 => ?_); clear hK K hHeld; have hHeld := hHeld2; clear hHeld2; try simp only [gmS])
   refine rdR 5 (fun K hK=>?_)
   refine wp_appF (.tmp 18) (.tmp 20) 22 rfl Tryz.underlying22 info_rec rfl (by decide) wd1.heap.size _ n1 (rvsL l) _ 1 1 (rvL r) (fun u hu=>(Array.all_eq_true_iff_forall_mem.1 (rvW_one HR.out)) u (by simpa using hu)) rfl rfl OF.out LR.out rfl (Below.size (show Below _ _ _ from hHeld)) (by omega) (by omega) ?_
   intro v4 w4 ho4 hg4 hq4
   have BG:=Lib.hid (grown_below hg4 (fun k hk=>(own_cells OF.out hk).1) (Below.size (show Below _ _ _ from hHeld)))
   obtain ⟨A4,c4,rfl,hR4,-⟩:=own_slG ho4
   have R4:=Lib.hid hR4
   (refine hK.out _ _ (OldB.then2 hHeld BG.out) (fun hHeld2 => ?_); clear hK K hHeld; have hHeld := hHeld2; clear hHeld2; try simp only [gmS])
   (refine tkW 6 ?_; try simp only [gmS])
   have OQ:=L1 _ hHeld
   (refine wpAnyH_done (by kernel_rfl) ?_ _; refine NoPanic.normal ?_)
   go_wp2_with fail
   go_meet
   case rel =>
    have e4:rvsL l ++ rvL r = rvsL (l ++ [r]):=by rw [rvsL_app,rvsL_one]
    have R5:=R4.out
    rw [e4] at R5
    exact ⟨A4,c4,rfl,Lib.hid (Rw.app (A':=none) R5 (fun q hq=>(H1.out.is q hq).below (BB.out _ OQ)) (fun q hq=>by rw [List.mem_singleton.1 hq]; exact HR.out.below (BB.out _ OQ))),Lib.hid OQ⟩
 case rest =>
  obtain ⟨A3,c3,rfl,HL,OCH⟩:=hcut
  have OC:=OCH.out
  have NA:Hid (n1 + 1 = (l ++ [r]).length):=Lib.hid (by rw [List.length_append,← N1.out]; rfl)
  have FW:=Lib.hid (few29_any A3 (n1 + 1) c3 (l ++ [r]) x wc NA.out HL.out (HX.out.below (BB.out _ OC)))
  unfold woA at FW
  have k0:∀ u,OldB X u → u.cell? ⟨bx,0,none⟩ = some (.int .i64 r.kind):=fun u hu=>by simpa using RR.out u hu 0 _ rfl
  have k1:∀ u,OldB X u → u.cell? ⟨bx,1,none⟩ = some (.int .i64 r.author):=fun u hu=>by simpa using RR.out u hu 1 _ rfl
  have k9:∀ u,OldB X u → u.cell? ⟨bx,9,none⟩ = some (.int .i64 r.order):=fun u hu=>by simpa using RR.out u hu 9 _ rfl
  go_wp2_with (refine wpList_load_mid rfl 38 (.tmp 4) rfl bw 0 rfl (woL x) _ (RX.out _ OC) Tryz.underlying38 rfl (mwo_szL x) ?_)
  (with_reducible refine FW.out.mono ?_)
  rintro e wd3 ⟨rfl,b3⟩
  have O3:OldB X wd3:=OC.then b3
  have B3:=Lib.hid (BB.out _ O3)
  have k0u:=k0 wd3 O3
  have k1u:=k1 wd3 O3
  have HL3:=Lib.hid (HL.out.below b3)
  clear b3 FW HL OC OCH
  cases hf:(fewL (rcsC (l ++ [r])) 20 && decide (x.mods.length ≤ 60))
  ·clear k0 k1 k9
   go_wp2_with fail
   go_ret
   exact ⟨rfl,B3.out⟩
  by_cases h3:r.kind = 3
  case neg =>
   have g1:(r.kind != 3) = true:=by simpa using h3
   clear h3 hf k0 k1 k9
   go_wp2_with fail
   go_ret
   exact ⟨rfl,B3.out⟩
  have g1:(r.kind != 3) = false:=by rw [h3]; rfl
  rw [Bool.and_eq_true,decide_eq_true_eq] at hf
  obtain ⟨hf1,hf2⟩:=hf
  have ML:Hid (x.mods.length ≤ 1000000):=Lib.hid (Nat.le_trans hf2 (by decide))
  have IS:=Lib.hid (is29_any x r.author wd3 (HX.out.below B3.out) ML.out)
  unfold woA at IS
  go_wp2_with (refine wpList_load_midG (by simp [Region.wanted,yielded]; done) 38 (.tmp 4) rfl bw 0 rfl (woL x) _ (RX.out _ O3) Tryz.underlying38 rfl (mwo_szL x) ?_)
  (with_reducible refine IS.out.mono ?_)
  rintro e wd4 ⟨rfl,b4⟩
  have O4:OldB X wd4:=O3.then b4
  have B4:=Lib.hid (BB.out _ O4)
  have k9u:=k9 wd4 O4
  have HL4:=Lib.hid (HL3.out.below b4)
  clear b4 IS HL3 B3 O3 k0u k1u
  cases hm:inI x.mods r.author
  ·clear k0 k1 k9
   go_wp2_with fail
   go_ret
   exact ⟨rfl,B4.out⟩
  by_cases ho1:1 ≤ r.order
  rotate_left
  ·have g2:r.order < 1:=by omega
   have g3:decide (r.order < 1) = true:=decide_eq_true g2
   clear k0 k1 k9 ho1
   go_wp2_with fail
   go_ret
   exact ⟨rfl,B4.out⟩
  have g2:¬ r.order < 1:=by omega
  have g3:decide (r.order < 1) = false:=decide_eq_false g2
  by_cases ho4:r.order ≤ 4
  rotate_left
  ·have g4:4 < r.order:=by omega
   have g5:decide (4 < r.order) = true:=decide_eq_true g4
   clear k0 k1 k9 ho1 ho4
   go_wp2_with fail
   go_ret
   exact ⟨rfl,B4.out⟩
  have g4:¬ 4 < r.order:=by omega
  have g5:decide (4 < r.order) = false:=decide_eq_false g4
  have RA:=Lib.hid (HL4.out.rs (by decide) hf1)
  have R1:=Lib.hid (H1.out.rs (by decide) (few_of (m:=l ++ [r]) (fun q hq=>List.mem_append_left _ hq) (by simp) hf1))
  have N100:n1 ≤ 100000:=by rw [N1.out]; exact R1.out.len
  have LB:Hid (entS x.mods (l ++ [r]) = (entS x.mods l).map (obeyS r)):=Lib.hid (law_last x.mods l r h3 hm)
  have RI:Hid (∀ u,OldB wd4 u → RvIs u r):=Lib.hid (fun u hu=>(RA.out.is r (by simp)).below hu)
  have RZ:Hid (RcSz r.c):=Lib.hid (RA.out.sz r (by simp))
  have W3:Hid (∀ u,OldB wd4 u → WoIs u x):=Lib.hid (fun u hu=>HX.out.below (B4.out.trans (Below.mono hu B4.out.size)))
  have T3:Hid (∀ u,OldB wd4 u → Tab u):=Lib.hid (fun u hu=>HT.out.keep (B4.out.trans (Below.mono hu B4.out.size)))
  have BF:Hid (∀ u,OldB wd4 u → Below w.heap.size w u):=Lib.hid (fun u hu=>B4.out.trans (Below.mono hu B4.out.size))
  have RW3:Hid (∀ u,OldB wd4 u → u.rangeAt bw 0 (woL x)):=Lib.hid (fun u hu=>RX.out u (O4.then hu))
  have RR3:Hid (∀ u,OldB wd4 u → u.rangeAt bx 0 (rvL r)):=Lib.hid (fun u hu=>RR.out u (O4.then hu))
  have SA:=Lib.hid (fun u (hu:OldB wd4 u)=>status_any A n1 cA l x u N1.out (R1.out.below (BF.out u hu)) (W3.out u hu) ML.out (T3.out u hu))
  have SB:=Lib.hid (fun u (hu:OldB wd4 u)=>status_any A3 (n1 + 1) c3 (l ++ [r]) x u NA.out (RA.out.below hu) (W3.out u hu) ML.out (T3.out u hu))
  have IDC:=Lib.hid (fun u (hu:OldB wd4 u)=>id_any r u (RI.out u hu) RZ.out (T3.out u hu))
  have SE:=Lib.hid (fun u (hu:OldB wd4 u)=>sets29_any A n1 cA l u N1.out (R1.out.below (BF.out u hu)))
  unfold woA at SA SB
  unfold rvA at IDC
  rw [LB.out] at SB
  have DL:Hid (∀ e ∈ entS x.mods l,∀ u,OldB wd4 u → EdIs u e.cur):=Lib.hid (fun e he u hu=>((R1.out.is _ (entS_from _ _ e he).cur).below (BF.out u hu)).ed)
  have DW:Hid (∀ e ∈ entS x.mods l,∀ u,OldB wd4 u → EdIs u e.own):=Lib.hid (fun e he u hu=>((R1.out.is _ (entS_from _ _ e he).own).below (BF.out u hu)).ed)
  have DR:Hid (∀ u,OldB wd4 u → EdIs u r):=Lib.hid (fun u hu=>(RI.out u hu).ed)
  have LL:Hid ((entS x.mods l).length ≤ 100000):=Lib.hid (Nat.le_trans (entS_len _ _) R1.out.len)
  have LS:Hid ((entS x.mods l).length = (setsT l l.length).length):=Lib.hid (ent_len x.mods l)
  have EW:Hid (∀ k (hk:k < (entS x.mods l).length) (hs:k < (setsT l l.length).length),∃ h:(setsT l l.length)[k] < l.length,(entS x.mods l)[k].own = l[(setsT l l.length)[k]]):=Lib.hid (fun k hk hs=>ent_own x.mods l hk hs)
  have RL1:Hid (∀ u,OldB wd4 u → Rd u A (rvsL l)):=Lib.hid (fun u hu=>(R1.out.below (BF.out u hu)).rd)
  generalize setsT l l.length = st at *
  generalize entS x.mods l = es at *
  have HO:Hid (1 ≤ r.order ∧ r.order ≤ 4):=Lib.hid ⟨ho1,ho4⟩
  clear hf1 hf2 h3 hm ho1 ho4 RX RR BB H1 HX HR HT k0 k1 k9 RI RZ W3 T3 LB HL4 RA R1
  go_upto_region 5 with fail
  clear k9u g1 g2 g3 g4 g5
  (refine wp_region_noPanic ?_; refine wp_region_held_drew (S := (OldB wd4)) (by kernel_rfl) ?_ (fun hHeld => ?_); exact Below.drew (Below.refl _ _))
  (refine tkW 0 ?_; try simp only [gmS])
  (refine ldW 1 38 (.tmp 4) bw 0 (woL x) _ RW3.out Tryz.underlying38 (mwo_szL x) ?_; try simp only [gmS])
  (refine tkW 3 ?_; try simp only [gmS])
  (refine ldW 4 38 (.tmp 4) bw 0 (woL x) _ RW3.out Tryz.underlying38 (mwo_szL x) ?_; try simp only [gmS])
  refine rdR 2 (fun K hK=>?_)
  go_simp
  (with_reducible refine (SA.out _ hHeld).mono ?_)
  rintro e v1 ⟨a1,rfl,ho1,t1⟩
  obtain ⟨A9,c9,rfl,hR9,hc9⟩:=own_slG ho1
  (refine hK.out _ _ (OldB.then hHeld t1) (fun hHeld2 => ?_); clear hK K hHeld; have hHeld := hHeld2; clear hHeld2; try simp only [gmS])
  refine rdR 5 (fun K hK=>?_)
  go_simp
  (with_reducible refine (SB.out _ hHeld).mono ?_)
  rintro e v2 ⟨a2,rfl,ho2,t2⟩
  obtain ⟨A10,c10,rfl,hR10,hc10⟩:=own_slG ho2
  have R9:=Lib.hid (hR9.below t2)
  have R10:=Lib.hid hR10
  (refine hK.out _ _ (OldB.then hHeld t2) (fun hHeld2 => ?_); clear hK K hHeld; have hHeld := hHeld2; clear hHeld2; try simp only [gmS])
  (refine tkW 6 ?_; try simp only [gmS])
  (refine tkW 7 ?_; try simp only [gmS])
  have O5:OldB wd4 v2:=hHeld
  (refine wpAnyH_done (by kernel_rfl) ?_ _; refine NoPanic.normal ?_)
  clear hHeld ho1 ho2 t1 t2 hR9 hR10 SA SB hc9 hc10
  obtain ⟨n9,hn9⟩:∃ n9,n9 = es.length:=⟨_,rfl⟩
  have N9:=Lib.hid hn9
  have n9le:n9 ≤ 100000:=by rw [hn9]; exact LL.out
  have FLN:(es.map (obeyS r)).length = n9:=by rw [List.length_map,hn9]
  rw [FLN,← hn9]
  have SEV:=Lib.hid (SE.out v2 O5)
  obtain ⟨n11,hn11⟩:∃ n11,n11 = st.length:=⟨_,rfl⟩
  have N11:Hid (n9 = n11):=Lib.hid (by rw [hn9,hn11]; exact LS.out)
  have NS:=Lib.hid hn11
  simp only [← hn11] at SEV
  have gne:((n9:Int) != (n9:Int)) = false:=by simp
  clear hn9 hn11 FLN SE
  go_upto_region 8 with fail
  clear gne
  go_wp2_with fail
  (with_reducible refine SEV.out.mono ?_)
  rintro e v3 ⟨⟨A11,c11,rfl,h11⟩,t3⟩
  have O6:OldB wd4 v3:=O5.then t3
  have L6:∀ u,OldB v3 u → OldB wd4 u:=fun u hu=>O6.then hu
  have R9:=Lib.hid (R9.out.below t3)
  have R10:=Lib.hid (R10.out.below t3)
  have R11:=Lib.hid h11
  have OV:Hid (OldB v3 v3):=Lib.hid (Below.refl _ _)
  clear h11 t3 SEV
  go_upto_region 10 with fail
  go_loopw [12,13,14] (fun s12 s13 s14 wr=>∃ k:Nat,k ≤ n9 ∧ s12 = .int .i64 (k:Int) ∧ (∃ p,s13 = p) ∧ (∃ p,s14 = p) ∧ Hid (OldB v3 wr)) (fun i _ _ _=>n9 - (intOf i).toNat)
  case atStart=>exact ⟨0,Nat.zero_le _,rfl,⟨_,rfl⟩,⟨_,rfl⟩,OV⟩
  case round =>
   clear OV
   obtain ⟨k,hk,rfl,⟨p13,rfl⟩,⟨p14,rfl⟩,OL⟩:=hrel
   by_cases hlt:k < n9
   rotate_left
   ·have d1:¬ (k:Int) < (n9:Int):=by omega
    have FF:=Lib.hid (BF.out _ (L6 _ OL.out))
    go_wp2_with fail
    go_ret
    exact ⟨rfl,FF.out⟩
   have hkl:k < es.length:=by rw [← N9.out]; exact hlt
   have hkf:k < (es.map (obeyS r)).length:=by rw [List.length_map]; exact hkl
   have hks:k < st.length:=by rw [← NS.out,← N11.out]; exact hlt
   have d1:(k:Int) < (n9:Int):=by omega
   have d2:(0:Int) ≤ (k:Int):=by omega
   obtain ⟨g9,o9,rfl,hg9,h9⟩:=rd_rows 4 (by decide) (fun _=>rfl) (R9.out.below OL.out) hkl
   obtain ⟨g10,o10,rfl,hg10,h10⟩:=rd_rows 4 (by decide) (fun _=>rfl) (R10.out.below OL.out) hkf
   obtain ⟨hj,hown⟩:=EW.out k hkl hks
   rw [List.getElem_map] at h10
   have DLk:=DL.out es[k] (List.getElem_mem hkl)
   have DWk:=DW.out es[k] (List.getElem_mem hkl)
   obtain ⟨g11,o11,hA11,hg11,h11⟩:=(R11.out.below OL.out).at_ (by unfold intsN intsL; rw [List.length_map,List.length_map]; exact hks)
   subst hA11
   have i11:wr.cell? ⟨g11,o11 + k,none⟩ = some (.int .i64 (st[k]:Int)):=by
    rw [h11]; unfold intsN intsL; simp
   generalize hjj:st[k] = j at *
   obtain ⟨b,off,rfl,hb,hc⟩:=rvs_at (RL1.out wr (L6 _ OL.out)) hj
   have c6:=hc 6 (l[j].edv) rfl
   rw [← hown] at c6
   have dj1:(j:Int) < (n1:Int):=by have:=N1.out; omega
   have dj2:(0:Int) ≤ (j:Int):=by omega
   clear hc hown hjj h11
   generalize es[k] = e at *
   have LA:=Lib.hid (rangeAt_old hg9 h9)
   have LF:=Lib.hid (rangeAt_old hg10 h10)
   have I11:∀ u,OldB wr u → u.cell? ⟨g11,o11 + k,none⟩ = some (.int .i64 (j:Int)):=fun u hu=>(World.cell?_of_block (w:=wr) (hu.block g11 hg11)).trans i11
   have C6:∀ u,OldB wr u → u.cell? ⟨b,off + j * 21 + 6,none⟩ = some e.own.edv:=fun u hu=>(World.cell?_of_block (w:=wr) (hu.block b hb)).trans c6
   have L7:∀ u,OldB wr u → OldB wd4 u:=fun u hu=>L6 u (OldB.then OL.out hu)
   have L8:∀ u,OldB wr u → OldB v3 u:=fun u hu=>OldB.then OL.out hu
   have a0:∀ u,OldB wr u → u.cell? ⟨g9,o9 + k * 4,none⟩ = some (.string (mkB e.id)):=fun u hu=>by simpa using LA.out u hu 0 _ rfl
   have q7:∀ u,OldB wr u → u.cell? ⟨bx,7,none⟩ = some (.string (mkB r.target)):=fun u hu=>by simpa using RR3.out u (L7 u hu) 7 _ rfl
   have ta:=mkB_tl e.id
   have tb:=mkB_tl r.target
   have BU:Hid (∀ u,OldB wr u → Below w.heap.size w u):=Lib.hid (fun u hu=>BF.out u (L7 u hu))
   clear h9 h10 hg9 hg10 hg11 i11 c6 hb
   go_upto_region 12 with fail
   by_cases ht:e.id = r.target
   rotate_left
   ·have e1:(e.id == r.target) = false:=by simpa using ht
    have e2:(e.id != r.target) = true:=by simpa using ht
    have OBM:obeyS r e = e:=obey_miss ht
    rw [OBM] at LF
    have SM:Hid (∀ u,OldB wr u → Calls Tryz.prog 34 #[.agg (stL e).toArray,.agg (stL e).toArray] u fun e w'=>e = .returned (.bool true) ∧ Below u.heap.size u w'):=Lib.hid (fun u hu=>by
     have:=same29_any e e u (DLk u (L7 u hu)) (DLk u (L7 u hu))
     rwa [sameX_refl] at this)
    have ZS:=Lib.hid (sta_sz e)
    generalize stL e = el at *
    clear ht OBM DLk DWk C6 I11
    (refine wp_region_noPanic ?_; refine wp_region_held_drew (S := (OldB wr)) (by kernel_rfl) ?_ (fun hHeld => ?_); exact Below.drew (Below.refl _ _))
    (refine tkW 0 ?_; try simp only [gmS])
    (refine tkW 1 ?_; try simp only [gmS])
    (refine tkW 2 ?_; try simp only [gmS])
    (refine tkW 3 ?_; try simp only [gmS])
    (refine tkW 4 ?_; try simp only [gmS])
    (refine tkW 5 ?_; try simp only [gmS])
    (refine tkW 6 ?_; try simp only [gmS])
    (refine tkW 7 ?_; try simp only [gmS])
    have OD:=hHeld
    (refine wpAnyH_done (by kernel_rfl) ?_ _; refine NoPanic.normal ?_)
    go_upto_region 13 with fail
    clear hHeld a0 q7 ta tb e1 e2
    (refine wp_region_noPanic ?_; refine wp_region_held_drew (S := (OldB wr)) (by kernel_rfl) ?_ (fun hHeld => ?_); exact Below.drew OD)
    (refine tkW 0 ?_; try simp only [gmS])
    (refine tkW 1 ?_; try simp only [gmS])
    (refine tkW 2 ?_; try simp only [gmS])
    (refine ldW 3 42 (.tmp 78) g9 (o9 + k * 4) el _ LA.out Tryz.underlying42 ZS.out ?_; try simp only [gmS])
    (refine tkW 4 ?_; try simp only [gmS])
    (refine tkW 5 ?_; try simp only [gmS])
    (refine tkW 6 ?_; try simp only [gmS])
    (refine ldW 7 42 (.tmp 82) g10 (o10 + k * 4) el _ LF.out Tryz.underlying42 ZS.out ?_; try simp only [gmS])
    refine rdR 8 (fun K hK=>?_)
    go_simp
    (with_reducible refine (SM.out _ hHeld).mono ?_)
    rintro e z1 ⟨rfl,s1⟩
    (refine hK.out _ _ (OldB.then hHeld s1) (fun hHeld2 => ?_); clear hK K hHeld; have hHeld := hHeld2; clear hHeld2; try simp only [gmS])
    (refine tkW 9 ?_; try simp only [gmS])
    have OF:=Lib.hid (L8 _ hHeld)
    (refine wpAnyH_done (by kernel_rfl) ?_ _; refine NoPanic.normal ?_)
    go_wp2_with fail
    exact ⟨⟨k + 1,by omega,by go_num,⟨_,rfl⟩,⟨_,rfl⟩,OF⟩,by simp [intOf]; omega⟩
   have e1:(e.id == r.target) = true:=by rw [ht]; simp
   have e2:(e.id != r.target) = false:=by rw [ht]; simp
   have OBH:=obey_hit ht HO.out
   rw [OBH] at LF
   have EO:=Lib.hid ht
   clear ht OBH
   (refine wp_region_noPanic ?_; refine wp_region_held_drew (S := (OldB wr)) (by kernel_rfl) ?_ (fun hHeld => ?_); exact Below.drew (Below.refl _ _))
   (refine tkW 0 ?_; try simp only [gmS])
   (refine tkW 1 ?_; try simp only [gmS])
   (refine tkW 2 ?_; try simp only [gmS])
   (refine tkW 3 ?_; try simp only [gmS])
   (refine tkW 4 ?_; try simp only [gmS])
   (refine tkW 5 ?_; try simp only [gmS])
   (refine tkW 6 ?_; try simp only [gmS])
   (refine tkW 7 ?_; try simp only [gmS])
   have OD:=Lib.hid hHeld
   (refine wpAnyH_done (by kernel_rfl) ?_ _; refine NoPanic.normal ?_)
   clear hHeld
   generalize wr.drew = ud at *
   have k9:∀ u,OldB wr u → u.cell? ⟨bx,9,none⟩ = some (.int .i64 r.order):=fun u hu=>by simpa using RR3.out u (L7 u hu) 9 _ rfl
   have k6:∀ u,OldB wr u → u.cell? ⟨bx,6,none⟩ = some r.edv:=fun u hu=>by simpa using RR3.out u (L7 u hu) 6 _ rfl
   have IDW:Hid (∀ u,OldB wr u → Calls Tryz.prog 37 #[.agg (rvL r).toArray] u fun e w'=>e = .returned (.string (mkB (idC r.c))) ∧ Below u.heap.size u w'):=Lib.hid (fun u hu=>IDC.out u (L7 u hu))
   have RRW:Hid (∀ u,OldB wr u → u.rangeAt bx 0 (rvL r)):=Lib.hid (fun u hu=>RR3.out u (L7 u hu))
   have SO:=stOf_at (o:=r.order)
   have DW0:=Lib.hid (DWk wr (L7 wr (Below.refl _ _)))
   have HOO:=HO.out
   clear a0 q7 ta tb e1 e2
   obtain hq | hq | hq | hq:r.order = 1 ∨ r.order = 2 ∨ r.order = 3 ∨ r.order = 4:=by omega
   ·skip
    rw [SO.1 hq,if_neg (by rw [hq]; decide)] at LF
    rw [hq] at k9
    clear SO HOO HO hq
    have ED:Hid (∀ u,OldB wr u → EdIs u e.own):=Lib.hid (fun u hu=>DWk u (L7 u hu))
    clear DLk DWk DR DL DW
    obtain ⟨Ao,co,vo,heo⟩:=ED.out wr (Below.refl _ _)
    have ES:Hid (∀ u,OldB wr u → Es u Ao e.own.edits):=Lib.hid (fun u hu=>heo.below hu)
    have no_:e.own.edits.length ≤ 100000:=heo.len
    obtain ⟨mo,hmo⟩:∃ m,m = e.own.edits.length:=⟨_,rfl⟩
    have EC:Hid (∀ u,OldB wr u → Calls Tryz.prog 38 #[.slice Ao mo co,.slice Ao mo co] u fun e w'=>e = .returned (.bool true) ∧ Below u.heap.size u w'):=Lib.hid (fun u hu=>by
     have:=edits29_any Ao Ao co co e.own.edits e.own.edits mo mo u hmo hmo (ES.out u hu) (ES.out u hu)
     rwa [same_refl_ev] at this)
    have b0:∀ u,OldB wr u → u.cell? ⟨g10,o10 + k * 4,none⟩ = some (.string (mkB e.id)):=fun u hu=>by simpa using LF.out u hu 0 _ rfl
    have b1:∀ u,OldB wr u → u.cell? ⟨g10,o10 + k * 4 + 1,none⟩ = some (.int .i64 1):=fun u hu=>LF.out u hu 1 _ rfl
    have b2:∀ u,OldB wr u → u.cell? ⟨g10,o10 + k * 4 + 2,none⟩ = some (.string (mkB (idC r.c))):=fun u hu=>LF.out u hu 2 _ rfl
    have b3:∀ u,OldB wr u → u.cell? ⟨g10,o10 + k * 4 + 3,none⟩ = some (.slice Ao mo co):=fun u hu=>by rw [hmo,← vo]; exact LF.out u hu 3 _ rfl
    have a0:∀ u,OldB wr u → u.cell? ⟨g9,o9 + k * 4,none⟩ = some (.string (mkB e.id)):=fun u hu=>by simpa using LA.out u hu 0 _ rfl
    have q6:∀ u,OldB wr u → u.cell? ⟨b,off + j * 21 + 6,none⟩ = some (.slice Ao mo co):=fun u hu=>by rw [hmo,← vo]; exact C6 u hu
    skip
    clear C6
    clear k6 vo heo hmo LF DW0
    have OA:OldB wr (ud.alloc (.cells #[.int .i64 1,.int .i64 2,.int .i64 1,.int .i64 3] 3)):=OldB.alloc OD.out _
    have k9u:=k9 _ OA
    have cs:(ud.alloc (.cells #[.int .i64 1,.int .i64 2,.int .i64 1,.int .i64 3] 3)).cell? ⟨ud.heap.size,0,none⟩ = some (.int .i64 1):=load_block (i:=0) (heap_alloc_new ud _) rfl
    go_upto_region 16 with fail
    obtain ⟨U,hU⟩:∃ U,U = ud.alloc (.cells #[.int .i64 1,.int .i64 2,.int .i64 1,.int .i64 3] 3):=⟨_,rfl⟩
    rw [← hU] at OA ⊢
    clear k9u cs hU
    have d3:(k:Int) < (n11:Int):=by have:=N11.out; omega
    have d4:¬ (n11:Int) ≤ (k:Int):=by omega
    have d5:decide ((n11:Int) ≤ (k:Int)) = false:=decide_eq_false d4
    have y11:=I11 U OA
    have y6:=q6 U OA
    have y9:=k9 U OA
    go_upto_region 21 with fail
    clear d4 d5 y11 y6 y9 k9 q6 I11
    have tc:=mkB_tl e.id
    have ti:=mkB_tl (idC r.c)
    (refine wp_region_noPanic ?_; refine wp_region_held_drew (S := (OldB wr)) (by kernel_rfl) ?_ (fun hHeld => ?_); exact Below.drew OA)
    generalize U.drew = vd at *
    (refine tkW 0 ?_; try simp only [gmS])
    (refine tkW 1 ?_; try simp only [gmS])
    (refine tkW 2 ?_; try simp only [gmS])
    (refine tkW 3 ?_; try simp only [gmS])
    (refine tkW 4 ?_; try simp only [gmS])
    (refine tkW 5 ?_; try simp only [gmS])
    (refine tkW 6 ?_; try simp only [gmS])
    (refine tkW 7 ?_; try simp only [gmS])
    (refine tkW 8 ?_; try simp only [gmS])
    (refine tkW 9 ?_; try simp only [gmS])
    (refine tkW 10 ?_; try simp only [gmS])
    (refine tkW 11 ?_; try simp only [gmS])
    (refine tkW 12 ?_; try simp only [gmS])
    (refine tkW 13 ?_; try simp only [gmS])
    (refine tkW 14 ?_; try simp only [gmS])
    (refine tkW 15 ?_; try simp only [gmS])
    (refine tkW 16 ?_; try simp only [gmS])
    (refine tkW 17 ?_; try simp only [gmS])
    (refine tkW 18 ?_; try simp only [gmS])
    (refine tkW 19 ?_; try simp only [gmS])
    (refine tkW 20 ?_; try simp only [gmS])
    (refine tkW 21 ?_; try simp only [gmS])
    (refine tkW 22 ?_; try simp only [gmS])
    (refine tkW 23 ?_; try simp only [gmS])
    (refine tkW 24 ?_; try simp only [gmS])
    (refine tkW 25 ?_; try simp only [gmS])
    (refine ldW 26 56 (.tmp 5) bx 0 (rvL r) _ RRW.out Tryz.underlying56 (mrec_szL r) ?_; try simp only [gmS])
    refine rdR 27 (fun K hK=>?_)
    go_simp
    (with_reducible refine (IDW.out _ hHeld).mono ?_)
    rintro en z2 ⟨rfl,s2⟩
    (refine hK.out _ _ (OldB.then hHeld s2) (fun hHeld2 => ?_); clear hK K hHeld; have hHeld := hHeld2; clear hHeld2; try simp only [gmS])
    (refine tkW 28 ?_; try simp only [gmS])
    (refine tkW 29 ?_; try simp only [gmS])
    (refine tkW 30 ?_; try simp only [gmS])
    (refine tkW 31 ?_; try simp only [gmS])
    (refine tkW 32 ?_; try simp only [gmS])
    (refine tkW 33 ?_; try simp only [gmS])
    (refine tkW 34 ?_; try simp only [gmS])
    (refine tkW 35 ?_; try simp only [gmS])
    (refine tkW 36 ?_; try simp only [gmS])
    refine rdR 37 (fun K hK=>?_)
    go_simp
    (with_reducible refine (EC.out _ hHeld).mono ?_)
    rintro en z3 ⟨rfl,s3⟩
    (refine hK.out _ _ (OldB.then hHeld s3) (fun hHeld2 => ?_); clear hK K hHeld; have hHeld := hHeld2; clear hHeld2; try simp only [gmS])
    (refine tkW 38 ?_; try simp only [gmS])
    (refine tkW 39 ?_; try simp only [gmS])
    have OF:=Lib.hid (L8 _ hHeld)
    (refine wpAnyH_done (by kernel_rfl) ?_ _; refine NoPanic.normal ?_)
    go_wp2_with fail
    exact ⟨⟨k + 1,by omega,by go_num,⟨_,rfl⟩,⟨_,rfl⟩,OF⟩,by simp [intOf]; omega⟩
   ·skip
    rw [SO.2.1 hq,if_neg (by rw [hq]; decide)] at LF
    rw [hq] at k9
    clear SO HOO HO hq
    have ED:Hid (∀ u,OldB wr u → EdIs u e.own):=Lib.hid (fun u hu=>DWk u (L7 u hu))
    clear DLk DWk DR DL DW
    obtain ⟨Ao,co,vo,heo⟩:=ED.out wr (Below.refl _ _)
    have ES:Hid (∀ u,OldB wr u → Es u Ao e.own.edits):=Lib.hid (fun u hu=>heo.below hu)
    have no_:e.own.edits.length ≤ 100000:=heo.len
    obtain ⟨mo,hmo⟩:∃ m,m = e.own.edits.length:=⟨_,rfl⟩
    have EC:Hid (∀ u,OldB wr u → Calls Tryz.prog 38 #[.slice Ao mo co,.slice Ao mo co] u fun e w'=>e = .returned (.bool true) ∧ Below u.heap.size u w'):=Lib.hid (fun u hu=>by
     have:=edits29_any Ao Ao co co e.own.edits e.own.edits mo mo u hmo hmo (ES.out u hu) (ES.out u hu)
     rwa [same_refl_ev] at this)
    have b0:∀ u,OldB wr u → u.cell? ⟨g10,o10 + k * 4,none⟩ = some (.string (mkB e.id)):=fun u hu=>by simpa using LF.out u hu 0 _ rfl
    have b1:∀ u,OldB wr u → u.cell? ⟨g10,o10 + k * 4 + 1,none⟩ = some (.int .i64 2):=fun u hu=>LF.out u hu 1 _ rfl
    have b2:∀ u,OldB wr u → u.cell? ⟨g10,o10 + k * 4 + 2,none⟩ = some (.string (mkB (idC r.c))):=fun u hu=>LF.out u hu 2 _ rfl
    have b3:∀ u,OldB wr u → u.cell? ⟨g10,o10 + k * 4 + 3,none⟩ = some (.slice Ao mo co):=fun u hu=>by rw [hmo,← vo]; exact LF.out u hu 3 _ rfl
    have a0:∀ u,OldB wr u → u.cell? ⟨g9,o9 + k * 4,none⟩ = some (.string (mkB e.id)):=fun u hu=>by simpa using LA.out u hu 0 _ rfl
    have q6:∀ u,OldB wr u → u.cell? ⟨b,off + j * 21 + 6,none⟩ = some (.slice Ao mo co):=fun u hu=>by rw [hmo,← vo]; exact C6 u hu
    skip
    clear C6
    clear k6 vo heo hmo LF DW0
    have OA:OldB wr (ud.alloc (.cells #[.int .i64 1,.int .i64 2,.int .i64 1,.int .i64 3] 3)):=OldB.alloc OD.out _
    have k9u:=k9 _ OA
    have cs:(ud.alloc (.cells #[.int .i64 1,.int .i64 2,.int .i64 1,.int .i64 3] 3)).cell? ⟨ud.heap.size,1,none⟩ = some (.int .i64 2):=load_block (i:=1) (heap_alloc_new ud _) rfl
    go_upto_region 16 with fail
    obtain ⟨U,hU⟩:∃ U,U = ud.alloc (.cells #[.int .i64 1,.int .i64 2,.int .i64 1,.int .i64 3] 3):=⟨_,rfl⟩
    rw [← hU] at OA ⊢
    clear k9u cs hU
    have d3:(k:Int) < (n11:Int):=by have:=N11.out; omega
    have d4:¬ (n11:Int) ≤ (k:Int):=by omega
    have d5:decide ((n11:Int) ≤ (k:Int)) = false:=decide_eq_false d4
    have y11:=I11 U OA
    have y6:=q6 U OA
    have y9:=k9 U OA
    go_upto_region 21 with fail
    clear d4 d5 y11 y6 y9 k9 q6 I11
    have tc:=mkB_tl e.id
    have ti:=mkB_tl (idC r.c)
    (refine wp_region_noPanic ?_; refine wp_region_held_drew (S := (OldB wr)) (by kernel_rfl) ?_ (fun hHeld => ?_); exact Below.drew OA)
    generalize U.drew = vd at *
    (refine tkW 0 ?_; try simp only [gmS])
    (refine tkW 1 ?_; try simp only [gmS])
    (refine tkW 2 ?_; try simp only [gmS])
    (refine tkW 3 ?_; try simp only [gmS])
    (refine tkW 4 ?_; try simp only [gmS])
    (refine tkW 5 ?_; try simp only [gmS])
    (refine tkW 6 ?_; try simp only [gmS])
    (refine tkW 7 ?_; try simp only [gmS])
    (refine tkW 8 ?_; try simp only [gmS])
    (refine tkW 9 ?_; try simp only [gmS])
    (refine tkW 10 ?_; try simp only [gmS])
    (refine tkW 11 ?_; try simp only [gmS])
    (refine tkW 12 ?_; try simp only [gmS])
    (refine tkW 13 ?_; try simp only [gmS])
    (refine tkW 14 ?_; try simp only [gmS])
    (refine tkW 15 ?_; try simp only [gmS])
    (refine tkW 16 ?_; try simp only [gmS])
    (refine tkW 17 ?_; try simp only [gmS])
    (refine tkW 18 ?_; try simp only [gmS])
    (refine tkW 19 ?_; try simp only [gmS])
    (refine tkW 20 ?_; try simp only [gmS])
    (refine tkW 21 ?_; try simp only [gmS])
    (refine tkW 22 ?_; try simp only [gmS])
    (refine tkW 23 ?_; try simp only [gmS])
    (refine tkW 24 ?_; try simp only [gmS])
    (refine tkW 25 ?_; try simp only [gmS])
    (refine ldW 26 56 (.tmp 5) bx 0 (rvL r) _ RRW.out Tryz.underlying56 (mrec_szL r) ?_; try simp only [gmS])
    refine rdR 27 (fun K hK=>?_)
    go_simp
    (with_reducible refine (IDW.out _ hHeld).mono ?_)
    rintro en z2 ⟨rfl,s2⟩
    (refine hK.out _ _ (OldB.then hHeld s2) (fun hHeld2 => ?_); clear hK K hHeld; have hHeld := hHeld2; clear hHeld2; try simp only [gmS])
    (refine tkW 28 ?_; try simp only [gmS])
    (refine tkW 29 ?_; try simp only [gmS])
    (refine tkW 30 ?_; try simp only [gmS])
    (refine tkW 31 ?_; try simp only [gmS])
    (refine tkW 32 ?_; try simp only [gmS])
    (refine tkW 33 ?_; try simp only [gmS])
    (refine tkW 34 ?_; try simp only [gmS])
    (refine tkW 35 ?_; try simp only [gmS])
    (refine tkW 36 ?_; try simp only [gmS])
    refine rdR 37 (fun K hK=>?_)
    go_simp
    (with_reducible refine (EC.out _ hHeld).mono ?_)
    rintro en z3 ⟨rfl,s3⟩
    (refine hK.out _ _ (OldB.then hHeld s3) (fun hHeld2 => ?_); clear hK K hHeld; have hHeld := hHeld2; clear hHeld2; try simp only [gmS])
    (refine tkW 38 ?_; try simp only [gmS])
    (refine tkW 39 ?_; try simp only [gmS])
    have OF:=Lib.hid (L8 _ hHeld)
    (refine wpAnyH_done (by kernel_rfl) ?_ _; refine NoPanic.normal ?_)
    go_wp2_with fail
    exact ⟨⟨k + 1,by omega,by go_num,⟨_,rfl⟩,⟨_,rfl⟩,OF⟩,by simp [intOf]; omega⟩
   ·skip
    rw [SO.2.2.1 hq,if_pos hq] at LF
    rw [hq] at k9
    clear SO HOO HO hq
    have ED:Hid (∀ u,OldB wr u → EdIs u r):=Lib.hid (fun u hu=>DR.out u (L7 u hu))
    clear DLk DWk DR DL DW
    obtain ⟨Ao,co,vo,heo⟩:=ED.out wr (Below.refl _ _)
    have ES:Hid (∀ u,OldB wr u → Es u Ao r.edits):=Lib.hid (fun u hu=>heo.below hu)
    have no_:r.edits.length ≤ 100000:=heo.len
    obtain ⟨mo,hmo⟩:∃ m,m = r.edits.length:=⟨_,rfl⟩
    have EC:Hid (∀ u,OldB wr u → Calls Tryz.prog 38 #[.slice Ao mo co,.slice Ao mo co] u fun e w'=>e = .returned (.bool true) ∧ Below u.heap.size u w'):=Lib.hid (fun u hu=>by
     have:=edits29_any Ao Ao co co r.edits r.edits mo mo u hmo hmo (ES.out u hu) (ES.out u hu)
     rwa [same_refl_ev] at this)
    have b0:∀ u,OldB wr u → u.cell? ⟨g10,o10 + k * 4,none⟩ = some (.string (mkB e.id)):=fun u hu=>by simpa using LF.out u hu 0 _ rfl
    have b1:∀ u,OldB wr u → u.cell? ⟨g10,o10 + k * 4 + 1,none⟩ = some (.int .i64 1):=fun u hu=>LF.out u hu 1 _ rfl
    have b2:∀ u,OldB wr u → u.cell? ⟨g10,o10 + k * 4 + 2,none⟩ = some (.string (mkB (idC r.c))):=fun u hu=>LF.out u hu 2 _ rfl
    have b3:∀ u,OldB wr u → u.cell? ⟨g10,o10 + k * 4 + 3,none⟩ = some (.slice Ao mo co):=fun u hu=>by rw [hmo,← vo]; exact LF.out u hu 3 _ rfl
    have a0:∀ u,OldB wr u → u.cell? ⟨g9,o9 + k * 4,none⟩ = some (.string (mkB e.id)):=fun u hu=>by simpa using LA.out u hu 0 _ rfl
    have q6:∀ u,OldB wr u → u.cell? ⟨bx,6,none⟩ = some (.slice Ao mo co):=fun u hu=>by rw [hmo,← vo]; exact k6 u hu
    obtain ⟨Aw,mw,cw,hw6⟩:∃ Aw mw cw,e.own.edv = .slice Aw mw cw:=by obtain ⟨x1,x2,x3,-⟩:=DW0.out; exact ⟨_,_,_,x3⟩
    rw [hw6] at C6
    clear k6 vo heo hmo LF DW0 hw6
    have OA:OldB wr (ud.alloc (.cells #[.int .i64 1,.int .i64 2,.int .i64 1,.int .i64 3] 3)):=OldB.alloc OD.out _
    have k9u:=k9 _ OA
    have cs:(ud.alloc (.cells #[.int .i64 1,.int .i64 2,.int .i64 1,.int .i64 3] 3)).cell? ⟨ud.heap.size,2,none⟩ = some (.int .i64 1):=load_block (i:=2) (heap_alloc_new ud _) rfl
    go_upto_region 16 with fail
    obtain ⟨U,hU⟩:∃ U,U = ud.alloc (.cells #[.int .i64 1,.int .i64 2,.int .i64 1,.int .i64 3] 3):=⟨_,rfl⟩
    rw [← hU] at OA ⊢
    clear k9u cs hU
    have d3:(k:Int) < (n11:Int):=by have:=N11.out; omega
    have d4:¬ (n11:Int) ≤ (k:Int):=by omega
    have d5:decide ((n11:Int) ≤ (k:Int)) = false:=decide_eq_false d4
    have y11:=I11 U OA
    have y6:=C6 U OA
    have y9:=k9 U OA
    have y6x:=q6 U OA
    go_upto_region 21 with fail
    clear d4 d5 y11 y6 y9 y6x C6 k9 q6 I11
    have tc:=mkB_tl e.id
    have ti:=mkB_tl (idC r.c)
    (refine wp_region_noPanic ?_; refine wp_region_held_drew (S := (OldB wr)) (by kernel_rfl) ?_ (fun hHeld => ?_); exact Below.drew OA)
    generalize U.drew = vd at *
    (refine tkW 0 ?_; try simp only [gmS])
    (refine tkW 1 ?_; try simp only [gmS])
    (refine tkW 2 ?_; try simp only [gmS])
    (refine tkW 3 ?_; try simp only [gmS])
    (refine tkW 4 ?_; try simp only [gmS])
    (refine tkW 5 ?_; try simp only [gmS])
    (refine tkW 6 ?_; try simp only [gmS])
    (refine tkW 7 ?_; try simp only [gmS])
    (refine tkW 8 ?_; try simp only [gmS])
    (refine tkW 9 ?_; try simp only [gmS])
    (refine tkW 10 ?_; try simp only [gmS])
    (refine tkW 11 ?_; try simp only [gmS])
    (refine tkW 12 ?_; try simp only [gmS])
    (refine tkW 13 ?_; try simp only [gmS])
    (refine tkW 14 ?_; try simp only [gmS])
    (refine tkW 15 ?_; try simp only [gmS])
    (refine tkW 16 ?_; try simp only [gmS])
    (refine tkW 17 ?_; try simp only [gmS])
    (refine tkW 18 ?_; try simp only [gmS])
    (refine tkW 19 ?_; try simp only [gmS])
    (refine tkW 20 ?_; try simp only [gmS])
    (refine tkW 21 ?_; try simp only [gmS])
    (refine tkW 22 ?_; try simp only [gmS])
    (refine tkW 23 ?_; try simp only [gmS])
    (refine tkW 24 ?_; try simp only [gmS])
    (refine tkW 25 ?_; try simp only [gmS])
    (refine ldW 26 56 (.tmp 5) bx 0 (rvL r) _ RRW.out Tryz.underlying56 (mrec_szL r) ?_; try simp only [gmS])
    refine rdR 27 (fun K hK=>?_)
    go_simp
    (with_reducible refine (IDW.out _ hHeld).mono ?_)
    rintro en z2 ⟨rfl,s2⟩
    (refine hK.out _ _ (OldB.then hHeld s2) (fun hHeld2 => ?_); clear hK K hHeld; have hHeld := hHeld2; clear hHeld2; try simp only [gmS])
    (refine tkW 28 ?_; try simp only [gmS])
    (refine tkW 29 ?_; try simp only [gmS])
    (refine tkW 30 ?_; try simp only [gmS])
    (refine tkW 31 ?_; try simp only [gmS])
    (refine tkW 32 ?_; try simp only [gmS])
    (refine tkW 33 ?_; try simp only [gmS])
    (refine tkW 34 ?_; try simp only [gmS])
    (refine tkW 35 ?_; try simp only [gmS])
    (refine tkW 36 ?_; try simp only [gmS])
    refine rdR 37 (fun K hK=>?_)
    go_simp
    (with_reducible refine (EC.out _ hHeld).mono ?_)
    rintro en z3 ⟨rfl,s3⟩
    (refine hK.out _ _ (OldB.then hHeld s3) (fun hHeld2 => ?_); clear hK K hHeld; have hHeld := hHeld2; clear hHeld2; try simp only [gmS])
    (refine tkW 38 ?_; try simp only [gmS])
    (refine tkW 39 ?_; try simp only [gmS])
    have OF:=Lib.hid (L8 _ hHeld)
    (refine wpAnyH_done (by kernel_rfl) ?_ _; refine NoPanic.normal ?_)
    go_wp2_with fail
    exact ⟨⟨k + 1,by omega,by go_num,⟨_,rfl⟩,⟨_,rfl⟩,OF⟩,by simp [intOf]; omega⟩
   ·skip
    rw [SO.2.2.2 hq,if_neg (by rw [hq]; decide)] at LF
    rw [hq] at k9
    clear SO HOO HO hq
    have ED:Hid (∀ u,OldB wr u → EdIs u e.own):=Lib.hid (fun u hu=>DWk u (L7 u hu))
    clear DLk DWk DR DL DW
    obtain ⟨Ao,co,vo,heo⟩:=ED.out wr (Below.refl _ _)
    have ES:Hid (∀ u,OldB wr u → Es u Ao e.own.edits):=Lib.hid (fun u hu=>heo.below hu)
    have no_:e.own.edits.length ≤ 100000:=heo.len
    obtain ⟨mo,hmo⟩:∃ m,m = e.own.edits.length:=⟨_,rfl⟩
    have EC:Hid (∀ u,OldB wr u → Calls Tryz.prog 38 #[.slice Ao mo co,.slice Ao mo co] u fun e w'=>e = .returned (.bool true) ∧ Below u.heap.size u w'):=Lib.hid (fun u hu=>by
     have:=edits29_any Ao Ao co co e.own.edits e.own.edits mo mo u hmo hmo (ES.out u hu) (ES.out u hu)
     rwa [same_refl_ev] at this)
    have b0:∀ u,OldB wr u → u.cell? ⟨g10,o10 + k * 4,none⟩ = some (.string (mkB e.id)):=fun u hu=>by simpa using LF.out u hu 0 _ rfl
    have b1:∀ u,OldB wr u → u.cell? ⟨g10,o10 + k * 4 + 1,none⟩ = some (.int .i64 3):=fun u hu=>LF.out u hu 1 _ rfl
    have b2:∀ u,OldB wr u → u.cell? ⟨g10,o10 + k * 4 + 2,none⟩ = some (.string (mkB (idC r.c))):=fun u hu=>LF.out u hu 2 _ rfl
    have b3:∀ u,OldB wr u → u.cell? ⟨g10,o10 + k * 4 + 3,none⟩ = some (.slice Ao mo co):=fun u hu=>by rw [hmo,← vo]; exact LF.out u hu 3 _ rfl
    have a0:∀ u,OldB wr u → u.cell? ⟨g9,o9 + k * 4,none⟩ = some (.string (mkB e.id)):=fun u hu=>by simpa using LA.out u hu 0 _ rfl
    have q6:∀ u,OldB wr u → u.cell? ⟨b,off + j * 21 + 6,none⟩ = some (.slice Ao mo co):=fun u hu=>by rw [hmo,← vo]; exact C6 u hu
    skip
    clear C6
    clear k6 vo heo hmo LF DW0
    have OA:OldB wr (ud.alloc (.cells #[.int .i64 1,.int .i64 2,.int .i64 1,.int .i64 3] 3)):=OldB.alloc OD.out _
    have k9u:=k9 _ OA
    have cs:(ud.alloc (.cells #[.int .i64 1,.int .i64 2,.int .i64 1,.int .i64 3] 3)).cell? ⟨ud.heap.size,3,none⟩ = some (.int .i64 3):=load_block (i:=3) (heap_alloc_new ud _) rfl
    go_upto_region 16 with fail
    obtain ⟨U,hU⟩:∃ U,U = ud.alloc (.cells #[.int .i64 1,.int .i64 2,.int .i64 1,.int .i64 3] 3):=⟨_,rfl⟩
    rw [← hU] at OA ⊢
    clear k9u cs hU
    have d3:(k:Int) < (n11:Int):=by have:=N11.out; omega
    have d4:¬ (n11:Int) ≤ (k:Int):=by omega
    have d5:decide ((n11:Int) ≤ (k:Int)) = false:=decide_eq_false d4
    have y11:=I11 U OA
    have y6:=q6 U OA
    have y9:=k9 U OA
    go_upto_region 21 with fail
    clear d4 d5 y11 y6 y9 k9 q6 I11
    have tc:=mkB_tl e.id
    have ti:=mkB_tl (idC r.c)
    (refine wp_region_noPanic ?_; refine wp_region_held_drew (S := (OldB wr)) (by kernel_rfl) ?_ (fun hHeld => ?_); exact Below.drew OA)
    generalize U.drew = vd at *
    (refine tkW 0 ?_; try simp only [gmS])
    (refine tkW 1 ?_; try simp only [gmS])
    (refine tkW 2 ?_; try simp only [gmS])
    (refine tkW 3 ?_; try simp only [gmS])
    (refine tkW 4 ?_; try simp only [gmS])
    (refine tkW 5 ?_; try simp only [gmS])
    (refine tkW 6 ?_; try simp only [gmS])
    (refine tkW 7 ?_; try simp only [gmS])
    (refine tkW 8 ?_; try simp only [gmS])
    (refine tkW 9 ?_; try simp only [gmS])
    (refine tkW 10 ?_; try simp only [gmS])
    (refine tkW 11 ?_; try simp only [gmS])
    (refine tkW 12 ?_; try simp only [gmS])
    (refine tkW 13 ?_; try simp only [gmS])
    (refine tkW 14 ?_; try simp only [gmS])
    (refine tkW 15 ?_; try simp only [gmS])
    (refine tkW 16 ?_; try simp only [gmS])
    (refine tkW 17 ?_; try simp only [gmS])
    (refine tkW 18 ?_; try simp only [gmS])
    (refine tkW 19 ?_; try simp only [gmS])
    (refine tkW 20 ?_; try simp only [gmS])
    (refine tkW 21 ?_; try simp only [gmS])
    (refine tkW 22 ?_; try simp only [gmS])
    (refine tkW 23 ?_; try simp only [gmS])
    (refine tkW 24 ?_; try simp only [gmS])
    (refine tkW 25 ?_; try simp only [gmS])
    (refine ldW 26 56 (.tmp 5) bx 0 (rvL r) _ RRW.out Tryz.underlying56 (mrec_szL r) ?_; try simp only [gmS])
    refine rdR 27 (fun K hK=>?_)
    go_simp
    (with_reducible refine (IDW.out _ hHeld).mono ?_)
    rintro en z2 ⟨rfl,s2⟩
    (refine hK.out _ _ (OldB.then hHeld s2) (fun hHeld2 => ?_); clear hK K hHeld; have hHeld := hHeld2; clear hHeld2; try simp only [gmS])
    (refine tkW 28 ?_; try simp only [gmS])
    (refine tkW 29 ?_; try simp only [gmS])
    (refine tkW 30 ?_; try simp only [gmS])
    (refine tkW 31 ?_; try simp only [gmS])
    (refine tkW 32 ?_; try simp only [gmS])
    (refine tkW 33 ?_; try simp only [gmS])
    (refine tkW 34 ?_; try simp only [gmS])
    (refine tkW 35 ?_; try simp only [gmS])
    (refine tkW 36 ?_; try simp only [gmS])
    refine rdR 37 (fun K hK=>?_)
    go_simp
    (with_reducible refine (EC.out _ hHeld).mono ?_)
    rintro en z3 ⟨rfl,s3⟩
    (refine hK.out _ _ (OldB.then hHeld s3) (fun hHeld2 => ?_); clear hK K hHeld; have hHeld := hHeld2; clear hHeld2; try simp only [gmS])
    (refine tkW 38 ?_; try simp only [gmS])
    (refine tkW 39 ?_; try simp only [gmS])
    have OF:=Lib.hid (L8 _ hHeld)
    (refine wpAnyH_done (by kernel_rfl) ?_ _; refine NoPanic.normal ?_)
    go_wp2_with fail
    exact ⟨⟨k + 1,by omega,by go_num,⟨_,rfl⟩,⟨_,rfl⟩,OF⟩,by simp [intOf]; omega⟩
end Go.Proofs.YtniklmikdkjgiaaGreatDoor
