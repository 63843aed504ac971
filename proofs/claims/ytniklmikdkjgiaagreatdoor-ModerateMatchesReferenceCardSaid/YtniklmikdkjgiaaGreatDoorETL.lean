import Derived.Test.YtniklmikdkjgiaaGreatDoorETA
import Derived.Test.YtniklmikdkjgiaaGreatDoorCTI
import Derived.Test.YtniklmikdkjgiaaGreatDoorEXR
import Derived.Test.YtniklmikdkjgiaaGreatDoorWD
set_option linter.all false
set_option maxHeartbeats 16000000
set_option maxRecDepth 100000
namespace Go.Proofs.YtniklmikdkjgiaaGreatDoor
open Go.RowKit
theorem dec_call (n:Nat) (hn:n ≤ 1000000000) (u:World):Calls Tryz.prog 139 #[.int .i64 (n:Int)] u fun e w'=>e = .returned (.string (mkB (Dg.dec n))) ∧ u = w':=rdecimal_any n u (by omega)
theorem dec01:Dg.dec 0 = [48] ∧ Dg.dec 1 = [49]:=⟨Dg.dec_one (by decide),Dg.dec_one (by decide)⟩
theorem fields27_any (r:RV) (w:World) (h:RvIs w r) (hs:RcSz r.c) (hv:validR r.c = true) :
  Calls Tryz.prog 107 #[rvA r] w fun e w'=>(∃ A' c',e = .returned (.slice A' (pubF r.c).length c') ∧ Rd w' A' (strsC (pubF r.c))) ∧ Below w.heap.size w w':=by
 obtain ⟨hp,hp16⟩:=validR_pos hv
 have pk:0 ≤ r.kind ∧ r.kind ≤ 1000000000:=hp.kind
 have pa:0 ≤ r.author ∧ r.author ≤ 1000000000:=hp.author
 have pn:0 ≤ r.number ∧ r.number ≤ 1000000000:=hp.number
 have pc:0 ≤ r.clock ∧ r.clock ≤ 1000000000:=hp.clock
 have po:0 ≤ r.order ∧ r.order ≤ 1000000000:=hp.order
 obtain ⟨nk,hnk⟩:∃ n:Nat,r.kind = (n:Int):=⟨r.kind.toNat,by omega⟩
 obtain ⟨na,hna⟩:∃ n:Nat,r.author = (n:Int):=⟨r.author.toNat,by omega⟩
 obtain ⟨nn,hnn⟩:∃ n:Nat,r.number = (n:Int):=⟨r.number.toNat,by omega⟩
 obtain ⟨nc,hnc⟩:∃ n:Nat,r.clock = (n:Int):=⟨r.clock.toNat,by omega⟩
 obtain ⟨no,hno⟩:∃ n:Nat,r.order = (n:Int):=⟨r.order.toNat,by omega⟩
 obtain ⟨A0,a0,v0,r0⟩:=h.pa
 obtain ⟨Ae,ce,ve,he⟩:=h.ed
 obtain ⟨np,hnp⟩:∃ n,n = r.parents.length:=⟨_,rfl⟩
 obtain ⟨ne,hne⟩:∃ n,n = r.edits.length:=⟨_,rfl⟩
 have np16:np ≤ 16:=by rw [hnp]; exact hp16
 have PF:Hid (pubF r.c = [recT,Dg.dec nk,Dg.dec na,Dg.dec nn,Dg.dec nc,r.branch,Dg.dec np] ++ r.parents ++ [(rtextF (edsC r.edits)).1,r.target,Dg.dec (if r.yes then 1 else 0),Dg.dec no,r.frm]):=Lib.hid (by
  show [recT,Dg.dec r.kind.toNat,Dg.dec r.author.toNat,Dg.dec r.number.toNat,Dg.dec r.clock.toNat,r.branch] ++ (Dg.dec r.parents.length :: r.parents) ++ [(rtextF (edsC r.edits)).1,r.target,Dg.dec (if r.yes then 1 else 0),Dg.dec r.order.toNat,r.frm] = _
  rw [hnk,hna,hnn,hnc,hno,← hnp]; rfl)
 have TE:Hid (∀ e:(edsC r.edits).length = 0,(rtextF (edsC r.edits)).1 = []):=Lib.hid (fun e=>by unfold rtextF; rw [if_pos e])
 have TN:Hid (∀ e:¬ (edsC r.edits).length = 0,(rtextF (edsC r.edits)).1 = (changeTextF (edsC r.edits)).1):=Lib.hid (fun e=>by unfold rtextF; rw [if_neg e])
 have LE:(edsC r.edits).length = ne:=by unfold edsC; rw [List.length_map,hne]
 rw [LE] at TE TN
 unfold rvA
 obtain ⟨X,hX⟩:∃ X,X = w.alloc (.cells (rvL r).toArray 56):=⟨_,rfl⟩
 obtain ⟨bx,hbx⟩:∃ bx,w.heap.size = bx:=⟨_,rfl⟩
 have BX:Below w.heap.size w X:=by rw [hX]; exact (Below.refl _ _).alloc (Nat.le_refl _) _
 have XX:X.heap[bx]? = some (.cells (rvL r).toArray 56 (0,0)):=by rw [hX,← hbx]; exact heap_alloc_new w _
 have RX:∀ u,OldB X u → u.rangeAt bx 0 (rvL r):=fun u hu=>by have:=range_of_row ((hu.block bx (lt_of_block XX)).trans XX); simpa using this
 have c0:∀ u,OldB X u → u.cell? ⟨bx,0,none⟩ = some (.int .i64 (nk:Int)):=fun u hu=>by have:=RX u hu 0 _ rfl; rw [← hnk]; simpa using this
 have c1:∀ u,OldB X u → u.cell? ⟨bx,1,none⟩ = some (.int .i64 (na:Int)):=fun u hu=>by have:=RX u hu 1 _ rfl; rw [← hna]; simpa using this
 have c2:∀ u,OldB X u → u.cell? ⟨bx,2,none⟩ = some (.int .i64 (nn:Int)):=fun u hu=>by have:=RX u hu 2 _ rfl; rw [← hnn]; simpa using this
 have c3:∀ u,OldB X u → u.cell? ⟨bx,3,none⟩ = some (.int .i64 (nc:Int)):=fun u hu=>by have:=RX u hu 3 _ rfl; rw [← hnc]; simpa using this
 have c4:∀ u,OldB X u → u.cell? ⟨bx,4,none⟩ = some (.string (mkB r.branch)):=fun u hu=>by have:=RX u hu 4 _ rfl; simpa using this
 have c5:∀ u,OldB X u → u.cell? ⟨bx,5,none⟩ = some (.slice A0 np a0):=fun u hu=>by have:=RX u hu 5 _ rfl; rw [hnp,← v0]; simpa using this
 have c6:∀ u,OldB X u → u.cell? ⟨bx,6,none⟩ = some (.slice Ae ne ce):=fun u hu=>by have:=RX u hu 6 _ rfl; rw [hne,← ve]; simpa using this
 have c7:∀ u,OldB X u → u.cell? ⟨bx,7,none⟩ = some (.string (mkB r.target)):=fun u hu=>by have:=RX u hu 7 _ rfl; simpa using this
 have c8:∀ u,OldB X u → u.cell? ⟨bx,8,none⟩ = some (.bool r.yes):=fun u hu=>by have:=RX u hu 8 _ rfl; simpa using this
 have c9:∀ u,OldB X u → u.cell? ⟨bx,9,none⟩ = some (.int .i64 (no:Int)):=fun u hu=>by have:=RX u hu 9 _ rfl; rw [← hno]; simpa using this
 have c10:∀ u,OldB X u → u.cell? ⟨bx,10,none⟩ = some (.string (mkB r.frm)):=fun u hu=>by have:=RX u hu 10 _ rfl; simpa using this
 have BA:Hid (∀ u,OldB X u → Below w.heap.size w u):=Lib.hid (fun u hu=>BX.trans (Below.mono hu BX.size))
 have TX:=Lib.hid (fun u (hu:OldB X u)=>rt22_any Ae ne ce r.edits u hne (he.below (BA.out u hu)))
 have RP:=Lib.hid (fun u (hu:OldB X u)=>r0.below (BA.out u hu))
 have DK:=Lib.hid (fun u=>dec_call nk (by omega) u)
 have DA:=Lib.hid (fun u=>dec_call na (by omega) u)
 have DN:=Lib.hid (fun u=>dec_call nn (by omega) u)
 have DC:=Lib.hid (fun u=>dec_call nc (by omega) u)
 have DP:=Lib.hid (fun u=>dec_call np (by omega) u)
 have DO:=Lib.hid (fun u=>dec_call no (by omega) u)
 have lz:Hid ((strsC r.parents).length = np * 1):=Lib.hid (by rw [hnp]; simp [strsC])
 have HNP:=Lib.hid hnp
 have X0:=Lib.hid hX
 have X1:=Lib.hid hbx
 obtain ⟨n2,hn2⟩:∃ n,7 + np = n:=⟨_,rfl⟩
 clear h hs hv hp hp16 pk pa pn pc po hnk hna hnn hnc hno v0 r0 ve he hnp hne LE hX hbx BX XX RX
 go_enter Tryz.func107, Tryz.ntmps107
 go_upto_region 1 with fail
 rw [← X0.out,X1.out]
 clear X0 X1
 (refine wp_region_noPanic ?_; refine wp_region_held_drew (S := (OldB X)) (by kernel_rfl) ?_ (fun hHeld => ?_); exact Below.drew (Below.refl _ _))
 generalize X.drew = ud at *
 (refine tkW 0 ?_; try simp only [gmS])
 (refine tkW 1 ?_; try simp only [gmS])
 (refine tkW 3 ?_; try simp only [gmS])
 (refine tkW 4 ?_; try simp only [gmS])
 (refine tkW 6 ?_; try simp only [gmS])
 (refine tkW 7 ?_; try simp only [gmS])
 (refine tkW 9 ?_; try simp only [gmS])
 (refine tkW 10 ?_; try simp only [gmS])
 (refine tkW 12 ?_; try simp only [gmS])
 (refine tkW 13 ?_; try simp only [gmS])
 (refine tkW 14 ?_; try simp only [gmS])
 (refine tkW 15 ?_; try simp only [gmS])
 (refine tkW 16 ?_; try simp only [gmS])
 refine rdR 2 (fun K hK=>?_)
 go_simp
 (with_reducible refine (DK.out _).mono ?_)
 rintro en u2 ⟨rfl,rfl⟩
 (refine hK.out _ _ hHeld (fun hHeld2 => ?_); clear hK K hHeld; have hHeld := hHeld2; clear hHeld2; try simp only [gmS])
 refine rdR 5 (fun K hK=>?_)
 go_simp
 (with_reducible refine (DA.out _).mono ?_)
 rintro en u5 ⟨rfl,rfl⟩
 (refine hK.out _ _ hHeld (fun hHeld2 => ?_); clear hK K hHeld; have hHeld := hHeld2; clear hHeld2; try simp only [gmS])
 refine rdR 8 (fun K hK=>?_)
 go_simp
 (with_reducible refine (DN.out _).mono ?_)
 rintro en u8 ⟨rfl,rfl⟩
 (refine hK.out _ _ hHeld (fun hHeld2 => ?_); clear hK K hHeld; have hHeld := hHeld2; clear hHeld2; try simp only [gmS])
 refine rdR 11 (fun K hK=>?_)
 go_simp
 (with_reducible refine (DC.out _).mono ?_)
 rintro en u11 ⟨rfl,rfl⟩
 (refine hK.out _ _ hHeld (fun hHeld2 => ?_); clear hK K hHeld; have hHeld := hHeld2; clear hHeld2; try simp only [gmS])
 refine rdR 17 (fun K hK=>?_)
 go_simp
 (with_reducible refine (DP.out _).mono ?_)
 rintro en u17 ⟨rfl,rfl⟩
 (refine hK.out _ _ hHeld (fun hHeld2 => ?_); clear hK K hHeld; have hHeld := hHeld2; clear hHeld2; try simp only [gmS])
 refine rdR 18 (fun K hK=>?_)
 go_simp
 have OZ:Hid ((ud.alloc (.cells #[.string ⟨#[114,101,99,111,114,100]⟩,.string (mkB (Dg.dec nk)),.string (mkB (Dg.dec na)),.string (mkB (Dg.dec nn)),.string (mkB (Dg.dec nc)),.string (mkB r.branch),.string (mkB (Dg.dec np))] 9)).ownsRow X.heap.size 9 1 (.slice (some ⟨ud.heap.size,0,none⟩) 7 7) 7 (strsC [recT,Dg.dec nk,Dg.dec na,Dg.dec nn,Dg.dec nc,r.branch,Dg.dec np])):=Lib.hid (own_lit2 7 (OldB.alloc hHeld (.cells #[.string ⟨#[114,101,99,111,114,100]⟩,.string (mkB (Dg.dec nk)),.string (mkB (Dg.dec na)),.string (mkB (Dg.dec nn)),.string (mkB (Dg.dec nc)),.string (mkB r.branch),.string (mkB (Dg.dec np))] 9)) hHeld rfl (by decide))
 (refine hK.out _ _ (OldB.alloc hHeld _) (fun hHeld2 => ?_); clear hK K hHeld; have hHeld := hHeld2; clear hHeld2; try simp only [gmS])
 (refine tkW 19 ?_; try simp only [gmS])
 have OH:=Lib.hid hHeld
 (refine wpAnyH_done (by kernel_rfl) ?_ _; refine NoPanic.normal ?_)
 clear hHeld DK DA DN DC DP
 obtain ⟨U,hU⟩:∃ U,U = ud.alloc (.cells #[.string ⟨#[114,101,99,111,114,100]⟩,.string (mkB (Dg.dec nk)),.string (mkB (Dg.dec na)),.string (mkB (Dg.dec nn)),.string (mkB (Dg.dec nc)),.string (mkB r.branch),.string (mkB (Dg.dec np))] 9):=⟨_,rfl⟩
 obtain ⟨g2,hg2⟩:∃ g,ud.heap.size = g:=⟨_,rfl⟩
 rw [← hU] at OZ OH ⊢
 rw [hg2] at OZ ⊢
 clear hU hg2
 have y5:=c5 U OH.out
 have RPU:=Lib.hid (RP.out U OH.out)
 have bz:X.heap.size ≤ U.heap.size:=Below.size OH.out
 go_upto_region 3 with (at_builtin; refine wpList_appSN rfl (.tmp 25) (.tmp 27) 35 rfl Tryz.underlying35 info_strG rfl (by decide) X.heap.size _ 7 (strsC [recT,Dg.dec nk,Dg.dec na,Dg.dec nn,Dg.dec nc,r.branch,Dg.dec np]) A0 np a0 n2 hn2 (strsC r.parents) (strs_one _) rfl rfl OZ.out RPU.out lz.out bz (by omega) (by omega) ?_; intro A2x c2x w2 ho2 hb2)
 have OW:Hid (w2.ownsRow X.heap.size 9 1 (.slice A2x n2 c2x) n2 (strsC ([recT,Dg.dec nk,Dg.dec na,Dg.dec nn,Dg.dec nc,r.branch,Dg.dec np] ++ r.parents))):=Lib.hid (by rw [strsC_app]; exact ho2)
 have O2:OldB X w2:=Below.trans OH.out hb2
 clear y5 RPU bz ho2 hb2 OZ OH
 have y6:=c6 w2 O2
 by_cases hne:ne = 0
 ·have g6:¬ (0:Int) < (ne:Int):=by omega
  have ET:=Lib.hid (TE.out hne)
  clear hne
  have y8:=c8 w2 O2
  generalize r.yes = ye at *
  cases ye
  ·skip
   have PG:Hid (pubF r.c = [recT,Dg.dec nk,Dg.dec na,Dg.dec nn,Dg.dec nc,r.branch,Dg.dec np] ++ r.parents ++ [[],r.target,[48],Dg.dec no,r.frm]):=Lib.hid (by rw [PF.out,ET.out,show Dg.dec (if false = true then 1 else 0) = [48] from dec01.1])
   clear PF TE TN
   go_upto_region 9 with fail
   have OW:Hid (w2.drew.ownsRow X.heap.size 9 1 (.slice A2x n2 c2x) n2 (strsC ([recT,Dg.dec nk,Dg.dec na,Dg.dec nn,Dg.dec nc,r.branch,Dg.dec np] ++ r.parents))):=OW
   (refine wp_region_noPanic ?_; refine wp_region_held_drew (S := (OldB X)) (by kernel_rfl) ?_ (fun hHeld => ?_); exact Below.drew O2)
   generalize w2.drew = vd at *
   (refine tkW 0 ?_; try simp only [gmS])
   (refine tkW 1 ?_; try simp only [gmS])
   (refine tkW 2 ?_; try simp only [gmS])
   (refine tkW 3 ?_; try simp only [gmS])
   (refine tkW 4 ?_; try simp only [gmS])
   (refine tkW 5 ?_; try simp only [gmS])
   (refine tkW 6 ?_; try simp only [gmS])
   (refine tkW 8 ?_; try simp only [gmS])
   (refine tkW 9 ?_; try simp only [gmS])
   refine rdR 7 (fun K hK=>?_)
   go_simp
   (with_reducible refine (DO.out _).mono ?_)
   rintro en u7 ⟨rfl,rfl⟩
   (refine hK.out _ _ hHeld (fun hHeld2 => ?_); clear hK K hHeld; have hHeld := hHeld2; clear hHeld2; try simp only [gmS])
   refine rdR 10 (fun K hK=>?_)
   go_simp
   have OW:=Lib.hid (own_below OW.out ((Below.refl _ _).alloc (Nat.le_refl _) (.cells #[.string ⟨#[]⟩,.string (mkB r.target),.string ⟨#[48]⟩,.string (mkB (Dg.dec no)),.string (mkB r.frm)] 9)) (Nat.le_refl _))
   have LR:Hid (Rd (vd.alloc (.cells #[.string ⟨#[]⟩,.string (mkB r.target),.string ⟨#[48]⟩,.string (mkB (Dg.dec no)),.string (mkB r.frm)] 9)) (some ⟨vd.heap.size,0,none⟩) (strsC [[],r.target,[48],Dg.dec no,r.frm])):=Lib.hid (Rd.of_row (heap_alloc_new vd _) (List.prefix_refl _))
   (refine hK.out _ _ (OldB.alloc hHeld _) (fun hHeld2 => ?_); clear hK K hHeld; have hHeld := hHeld2; clear hHeld2; try simp only [gmS])
   refine rdR 11 (fun K hK=>?_)
   refine wp_appF (.tmp 41) (.tmp 51) 35 rfl Tryz.underlying35 info_strG rfl (by decide) X.heap.size _ n2 (strsC ([recT,Dg.dec nk,Dg.dec na,Dg.dec nn,Dg.dec nc,r.branch,Dg.dec np] ++ r.parents)) _ 5 5 (strsC [[],r.target,[48],Dg.dec no,r.frm]) (strs_one _) rfl rfl OW.out LR.out rfl (Below.size (show Below _ _ _ from hHeld)) (by omega) (by omega) ?_
   intro v3 w3 ho3 hg3 hq3
   have BG:=Lib.hid (grown_below hg3 (fun k hk=>own_base_le OW.out hk) (Below.size (show Below _ _ _ from hHeld)))
   (refine hK.out _ _ (OldB.then3 hHeld BG.out) (fun hHeld2 => ?_); clear hK K hHeld; have hHeld := hHeld2; clear hHeld2; try simp only [gmS])
   (refine tkW 12 ?_; try simp only [gmS])
   have FB:=Lib.hid (BA.out _ hHeld)
   (refine wpAnyH_done (by kernel_rfl) ?_ _; refine NoPanic.normal ?_)
   obtain ⟨A',c',rfl,hr,-⟩:=own_slG ho3
   have LN:Hid ((pubF r.c).length = n2 + 5):=Lib.hid (by rw [PG.out,List.length_append,List.length_append,← HNP.out,← hn2]; rfl)
   have HRD:Hid (Rd w3 A' (strsC (pubF r.c))):=Lib.hid (by rw [PG.out,strsC_app]; exact hr)
   clear ho3 hr PG hHeld
   go_wp2_with fail
   go_ret
   first
    | exact ⟨⟨A',c',by rw [LN.out]; rfl,HRD.out⟩,FB.out⟩
    | exact ⟨⟨A',⟨c',by rw [LN.out]; rfl⟩,HRD.out⟩,FB.out⟩
  ·skip
   have PG:Hid (pubF r.c = [recT,Dg.dec nk,Dg.dec na,Dg.dec nn,Dg.dec nc,r.branch,Dg.dec np] ++ r.parents ++ [[],r.target,[49],Dg.dec no,r.frm]):=Lib.hid (by rw [PF.out,ET.out,show Dg.dec (if true = true then 1 else 0) = [49] from dec01.2])
   clear PF TE TN
   go_upto_region 9 with fail
   have OW:Hid (w2.drew.ownsRow X.heap.size 9 1 (.slice A2x n2 c2x) n2 (strsC ([recT,Dg.dec nk,Dg.dec na,Dg.dec nn,Dg.dec nc,r.branch,Dg.dec np] ++ r.parents))):=OW
   (refine wp_region_noPanic ?_; refine wp_region_held_drew (S := (OldB X)) (by kernel_rfl) ?_ (fun hHeld => ?_); exact Below.drew O2)
   generalize w2.drew = vd at *
   (refine tkW 0 ?_; try simp only [gmS])
   (refine tkW 1 ?_; try simp only [gmS])
   (refine tkW 2 ?_; try simp only [gmS])
   (refine tkW 3 ?_; try simp only [gmS])
   (refine tkW 4 ?_; try simp only [gmS])
   (refine tkW 5 ?_; try simp only [gmS])
   (refine tkW 6 ?_; try simp only [gmS])
   (refine tkW 8 ?_; try simp only [gmS])
   (refine tkW 9 ?_; try simp only [gmS])
   refine rdR 7 (fun K hK=>?_)
   go_simp
   (with_reducible refine (DO.out _).mono ?_)
   rintro en u7 ⟨rfl,rfl⟩
   (refine hK.out _ _ hHeld (fun hHeld2 => ?_); clear hK K hHeld; have hHeld := hHeld2; clear hHeld2; try simp only [gmS])
   refine rdR 10 (fun K hK=>?_)
   go_simp
   have OW:=Lib.hid (own_below OW.out ((Below.refl _ _).alloc (Nat.le_refl _) (.cells #[.string ⟨#[]⟩,.string (mkB r.target),.string ⟨#[49]⟩,.string (mkB (Dg.dec no)),.string (mkB r.frm)] 9)) (Nat.le_refl _))
   have LR:Hid (Rd (vd.alloc (.cells #[.string ⟨#[]⟩,.string (mkB r.target),.string ⟨#[49]⟩,.string (mkB (Dg.dec no)),.string (mkB r.frm)] 9)) (some ⟨vd.heap.size,0,none⟩) (strsC [[],r.target,[49],Dg.dec no,r.frm])):=Lib.hid (Rd.of_row (heap_alloc_new vd _) (List.prefix_refl _))
   (refine hK.out _ _ (OldB.alloc hHeld _) (fun hHeld2 => ?_); clear hK K hHeld; have hHeld := hHeld2; clear hHeld2; try simp only [gmS])
   refine rdR 11 (fun K hK=>?_)
   refine wp_appF (.tmp 41) (.tmp 51) 35 rfl Tryz.underlying35 info_strG rfl (by decide) X.heap.size _ n2 (strsC ([recT,Dg.dec nk,Dg.dec na,Dg.dec nn,Dg.dec nc,r.branch,Dg.dec np] ++ r.parents)) _ 5 5 (strsC [[],r.target,[49],Dg.dec no,r.frm]) (strs_one _) rfl rfl OW.out LR.out rfl (Below.size (show Below _ _ _ from hHeld)) (by omega) (by omega) ?_
   intro v3 w3 ho3 hg3 hq3
   have BG:=Lib.hid (grown_below hg3 (fun k hk=>own_base_le OW.out hk) (Below.size (show Below _ _ _ from hHeld)))
   (refine hK.out _ _ (OldB.then3 hHeld BG.out) (fun hHeld2 => ?_); clear hK K hHeld; have hHeld := hHeld2; clear hHeld2; try simp only [gmS])
   (refine tkW 12 ?_; try simp only [gmS])
   have FB:=Lib.hid (BA.out _ hHeld)
   (refine wpAnyH_done (by kernel_rfl) ?_ _; refine NoPanic.normal ?_)
   obtain ⟨A',c',rfl,hr,-⟩:=own_slG ho3
   have LN:Hid ((pubF r.c).length = n2 + 5):=Lib.hid (by rw [PG.out,List.length_append,List.length_append,← HNP.out,← hn2]; rfl)
   have HRD:Hid (Rd w3 A' (strsC (pubF r.c))):=Lib.hid (by rw [PG.out,strsC_app]; exact hr)
   clear ho3 hr PG hHeld
   go_wp2_with fail
   go_ret
   first
    | exact ⟨⟨A',c',by rw [LN.out]; rfl,HRD.out⟩,FB.out⟩
    | exact ⟨⟨A',⟨c',by rw [LN.out]; rfl⟩,HRD.out⟩,FB.out⟩
 ·have g6:(0:Int) < (ne:Int):=by omega
  have ET:=Lib.hid (TN.out hne)
  have TXU:=Lib.hid (TX.out w2 O2)
  clear hne
  generalize (changeTextF (edsC r.edits)).1 = tx at *
  generalize (changeTextF (edsC r.edits)).2 = qx at *
  go_wp2_with fail
  (with_reducible refine TXU.out.mono ?_)
  rintro en w3 ⟨rfl,b3⟩
  have OW:=Lib.hid (own_sameG OW.out (fun g hg=>b3.block g (OW.out.lt g hg).2))
  have O3:OldB X w3:=OldB.then O2 b3
  clear b3 TXU y6
  have y8:=c8 w3 O3
  generalize r.yes = ye at *
  cases ye
  ·skip
   have PG:Hid (pubF r.c = [recT,Dg.dec nk,Dg.dec na,Dg.dec nn,Dg.dec nc,r.branch,Dg.dec np] ++ r.parents ++ [tx,r.target,[48],Dg.dec no,r.frm]):=Lib.hid (by rw [PF.out,ET.out,show Dg.dec (if false = true then 1 else 0) = [48] from dec01.1])
   clear PF TE TN
   go_upto_region 9 with fail
   have OW:Hid (w3.drew.ownsRow X.heap.size 9 1 (.slice A2x n2 c2x) n2 (strsC ([recT,Dg.dec nk,Dg.dec na,Dg.dec nn,Dg.dec nc,r.branch,Dg.dec np] ++ r.parents))):=OW
   (refine wp_region_noPanic ?_; refine wp_region_held_drew (S := (OldB X)) (by kernel_rfl) ?_ (fun hHeld => ?_); exact Below.drew O3)
   generalize w3.drew = vd at *
   (refine tkW 0 ?_; try simp only [gmS])
   (refine tkW 1 ?_; try simp only [gmS])
   (refine tkW 2 ?_; try simp only [gmS])
   (refine tkW 3 ?_; try simp only [gmS])
   (refine tkW 4 ?_; try simp only [gmS])
   (refine tkW 5 ?_; try simp only [gmS])
   (refine tkW 6 ?_; try simp only [gmS])
   (refine tkW 8 ?_; try simp only [gmS])
   (refine tkW 9 ?_; try simp only [gmS])
   refine rdR 7 (fun K hK=>?_)
   go_simp
   (with_reducible refine (DO.out _).mono ?_)
   rintro en u7 ⟨rfl,rfl⟩
   (refine hK.out _ _ hHeld (fun hHeld2 => ?_); clear hK K hHeld; have hHeld := hHeld2; clear hHeld2; try simp only [gmS])
   refine rdR 10 (fun K hK=>?_)
   go_simp
   have OW:=Lib.hid (own_below OW.out ((Below.refl _ _).alloc (Nat.le_refl _) (.cells #[.string (mkB tx),.string (mkB r.target),.string ⟨#[48]⟩,.string (mkB (Dg.dec no)),.string (mkB r.frm)] 9)) (Nat.le_refl _))
   have LR:Hid (Rd (vd.alloc (.cells #[.string (mkB tx),.string (mkB r.target),.string ⟨#[48]⟩,.string (mkB (Dg.dec no)),.string (mkB r.frm)] 9)) (some ⟨vd.heap.size,0,none⟩) (strsC [tx,r.target,[48],Dg.dec no,r.frm])):=Lib.hid (Rd.of_row (heap_alloc_new vd _) (List.prefix_refl _))
   (refine hK.out _ _ (OldB.alloc hHeld _) (fun hHeld2 => ?_); clear hK K hHeld; have hHeld := hHeld2; clear hHeld2; try simp only [gmS])
   refine rdR 11 (fun K hK=>?_)
   refine wp_appF (.tmp 41) (.tmp 51) 35 rfl Tryz.underlying35 info_strG rfl (by decide) X.heap.size _ n2 (strsC ([recT,Dg.dec nk,Dg.dec na,Dg.dec nn,Dg.dec nc,r.branch,Dg.dec np] ++ r.parents)) _ 5 5 (strsC [tx,r.target,[48],Dg.dec no,r.frm]) (strs_one _) rfl rfl OW.out LR.out rfl (Below.size (show Below _ _ _ from hHeld)) (by omega) (by omega) ?_
   intro v3 w3 ho3 hg3 hq3
   have BG:=Lib.hid (grown_below hg3 (fun k hk=>own_base_le OW.out hk) (Below.size (show Below _ _ _ from hHeld)))
   (refine hK.out _ _ (OldB.then3 hHeld BG.out) (fun hHeld2 => ?_); clear hK K hHeld; have hHeld := hHeld2; clear hHeld2; try simp only [gmS])
   (refine tkW 12 ?_; try simp only [gmS])
   have FB:=Lib.hid (BA.out _ hHeld)
   (refine wpAnyH_done (by kernel_rfl) ?_ _; refine NoPanic.normal ?_)
   obtain ⟨A',c',rfl,hr,-⟩:=own_slG ho3
   have LN:Hid ((pubF r.c).length = n2 + 5):=Lib.hid (by rw [PG.out,List.length_append,List.length_append,← HNP.out,← hn2]; rfl)
   have HRD:Hid (Rd w3 A' (strsC (pubF r.c))):=Lib.hid (by rw [PG.out,strsC_app]; exact hr)
   clear ho3 hr PG hHeld
   go_wp2_with fail
   go_ret
   first
    | exact ⟨⟨A',c',by rw [LN.out]; rfl,HRD.out⟩,FB.out⟩
    | exact ⟨⟨A',⟨c',by rw [LN.out]; rfl⟩,HRD.out⟩,FB.out⟩
  ·skip
   have PG:Hid (pubF r.c = [recT,Dg.dec nk,Dg.dec na,Dg.dec nn,Dg.dec nc,r.branch,Dg.dec np] ++ r.parents ++ [tx,r.target,[49],Dg.dec no,r.frm]):=Lib.hid (by rw [PF.out,ET.out,show Dg.dec (if true = true then 1 else 0) = [49] from dec01.2])
   clear PF TE TN
   go_upto_region 9 with fail
   have OW:Hid (w3.drew.ownsRow X.heap.size 9 1 (.slice A2x n2 c2x) n2 (strsC ([recT,Dg.dec nk,Dg.dec na,Dg.dec nn,Dg.dec nc,r.branch,Dg.dec np] ++ r.parents))):=OW
   (refine wp_region_noPanic ?_; refine wp_region_held_drew (S := (OldB X)) (by kernel_rfl) ?_ (fun hHeld => ?_); exact Below.drew O3)
   generalize w3.drew = vd at *
   (refine tkW 0 ?_; try simp only [gmS])
   (refine tkW 1 ?_; try simp only [gmS])
   (refine tkW 2 ?_; try simp only [gmS])
   (refine tkW 3 ?_; try simp only [gmS])
   (refine tkW 4 ?_; try simp only [gmS])
   (refine tkW 5 ?_; try simp only [gmS])
   (refine tkW 6 ?_; try simp only [gmS])
   (refine tkW 8 ?_; try simp only [gmS])
   (refine tkW 9 ?_; try simp only [gmS])
   refine rdR 7 (fun K hK=>?_)
   go_simp
   (with_reducible refine (DO.out _).mono ?_)
   rintro en u7 ⟨rfl,rfl⟩
   (refine hK.out _ _ hHeld (fun hHeld2 => ?_); clear hK K hHeld; have hHeld := hHeld2; clear hHeld2; try simp only [gmS])
   refine rdR 10 (fun K hK=>?_)
   go_simp
   have OW:=Lib.hid (own_below OW.out ((Below.refl _ _).alloc (Nat.le_refl _) (.cells #[.string (mkB tx),.string (mkB r.target),.string ⟨#[49]⟩,.string (mkB (Dg.dec no)),.string (mkB r.frm)] 9)) (Nat.le_refl _))
   have LR:Hid (Rd (vd.alloc (.cells #[.string (mkB tx),.string (mkB r.target),.string ⟨#[49]⟩,.string (mkB (Dg.dec no)),.string (mkB r.frm)] 9)) (some ⟨vd.heap.size,0,none⟩) (strsC [tx,r.target,[49],Dg.dec no,r.frm])):=Lib.hid (Rd.of_row (heap_alloc_new vd _) (List.prefix_refl _))
   (refine hK.out _ _ (OldB.alloc hHeld _) (fun hHeld2 => ?_); clear hK K hHeld; have hHeld := hHeld2; clear hHeld2; try simp only [gmS])
   refine rdR 11 (fun K hK=>?_)
   refine wp_appF (.tmp 41) (.tmp 51) 35 rfl Tryz.underlying35 info_strG rfl (by decide) X.heap.size _ n2 (strsC ([recT,Dg.dec nk,Dg.dec na,Dg.dec nn,Dg.dec nc,r.branch,Dg.dec np] ++ r.parents)) _ 5 5 (strsC [tx,r.target,[49],Dg.dec no,r.frm]) (strs_one _) rfl rfl OW.out LR.out rfl (Below.size (show Below _ _ _ from hHeld)) (by omega) (by omega) ?_
   intro v3 w3 ho3 hg3 hq3
   have BG:=Lib.hid (grown_below hg3 (fun k hk=>own_base_le OW.out hk) (Below.size (show Below _ _ _ from hHeld)))
   (refine hK.out _ _ (OldB.then3 hHeld BG.out) (fun hHeld2 => ?_); clear hK K hHeld; have hHeld := hHeld2; clear hHeld2; try simp only [gmS])
   (refine tkW 12 ?_; try simp only [gmS])
   have FB:=Lib.hid (BA.out _ hHeld)
   (refine wpAnyH_done (by kernel_rfl) ?_ _; refine NoPanic.normal ?_)
   obtain ⟨A',c',rfl,hr,-⟩:=own_slG ho3
   have LN:Hid ((pubF r.c).length = n2 + 5):=Lib.hid (by rw [PG.out,List.length_append,List.length_append,← HNP.out,← hn2]; rfl)
   have HRD:Hid (Rd w3 A' (strsC (pubF r.c))):=Lib.hid (by rw [PG.out,strsC_app]; exact hr)
   clear ho3 hr PG hHeld
   go_wp2_with fail
   go_ret
   first
    | exact ⟨⟨A',c',by rw [LN.out]; rfl,HRD.out⟩,FB.out⟩
    | exact ⟨⟨A',⟨c',by rw [LN.out]; rfl⟩,HRD.out⟩,FB.out⟩
end Go.Proofs.YtniklmikdkjgiaaGreatDoor
namespace Go.Proofs.YtniklmikdkjgiaaGreatDoor
open Go.RowKit
theorem name_le {t:Tx} (h:At.nameB t = true):t.length ≤ 24:=by
 cases t with
 | nil=>simp
 | cons c r =>
  unfold At.nameB at h
  simp only [Bool.and_eq_true,decide_eq_true_eq] at h
  rw [List.length_cons]; exact h.2
theorem isD_le {t:Tx} (h:Dg.isD t = true):t.length ≤ 24:=by
 by_cases h16:t.length = 16
 ·omega
 ·rw [Dg.isD_long h16] at h; cases h
theorem own_le {c:Rc} (h:own27 c = true):c.target.length ≤ 24 ∧ c.frm.length ≤ 24:=by
 unfold own27 at h
 rw [Bool.and_eq_true,Bool.and_eq_true,Bool.and_eq_true,Bool.and_eq_true] at h
 obtain ⟨-,h1,-,h2,-⟩:=h
 constructor
 ·split at h1
  ·exact isD_le h1
  ·rw [decide_eq_true_eq] at h1; rw [h1]; simp
 ·split at h2
  ·rw [Bool.and_eq_true] at h2; exact name_le h2.1
  ·rw [decide_eq_true_eq] at h2; rw [h2]; simp
theorem pubF_small {c:Rc} (hv:validR c = true):∀ s ∈ pubF c,s.length ≤ 20000:=by
 have hp:=(validR_pos hv).1
 have hq:=(validR_pos hv).2
 have hS:=r27_steps c
 rw [hv] at hS
 have hS:=hS.symm
 simp only [Bool.and_eq_true,decide_eq_true_eq] at hS
 obtain ⟨-,-,-,-,-,-,-,-,hb,-,hpa,-,ho,-⟩:=hS
 obtain ⟨ht,hf⟩:=own_le ho
 have hb:=name_le hb
 have D:∀ n:Nat,n ≤ 1000000000 → (Dg.dec n).length ≤ 20:=fun n hn=>dec_len 20 n (by omega) (by decide)
 have p1:=hp.kind
 have p2:=hp.author
 have p3:=hp.number
 have p4:=hp.clock
 have p5:=hp.order
 have rl:=rtextF_len c.edits
 intro s hs
 unfold pubF at hs
 simp only [List.mem_append,List.mem_cons,List.not_mem_nil,or_false] at hs
 rcases hs with ((rfl | rfl | rfl | rfl | rfl | rfl) | rfl | hs) | rfl | rfl | rfl | rfl | rfl
 ·decide
 ·have:=D c.kind.toNat (by omega); omega
 ·have:=D c.author.toNat (by omega); omega
 ·have:=D c.number.toNat (by omega); omega
 ·have:=D c.clock.toNat (by omega); omega
 ·omega
 ·have:=D c.parents.length (by omega); omega
 ·have:=isD_le (List.all_eq_true.1 hpa s hs); omega
 ·exact rl
 ·omega
 ·have:=D (if c.yes then 1 else 0) (by split <;> decide); omega
 ·have:=D c.order.toNat (by omega); omega
 ·omega
theorem rlist_tx (A:Option Addr) (n c:Nat) (l:List Tx) (w:World) (hn:n = l.length) (hlen:l.length ≤ 40) (hs:∀ s ∈ l,s.length ≤ 20000) (h:Rd w A (strsC l)) :
  Calls Tryz.prog 106 #[.slice A n c] w fun e w'=>e = .returned (.string (mkB (Dg.sumL (Dg.joined l)))) ∧ Below w.heap.size w w':=by
 have:=rlist_any A n c (l.map mkB) w (by rw [List.length_map]; exact hn) (by rw [List.length_map]; exact hlen) (fun s hm=>by
  obtain ⟨t,ht,rfl⟩:=List.mem_map.1 hm
  rw [mkB_len]; exact hs t ht) (by rw [List.map_map]; exact h)
 have e:bys (l.map mkB) = l:=by
  unfold bys
  rw [List.map_map]
  exact (List.map_congr_left (fun t _=>mkB_list t)).trans (List.map_id l)
 rw [e] at this
 exact this
theorem id27_any (r:RV) (w:World) (h:RvIs w r) (hs:RcSz r.c) :
  Calls Tryz.prog 66 #[rvA r] w fun e w'=>e = .returned (.string (mkB (idC r.c))) ∧ Below w.heap.size w w':=by
 have VA0:=fun u (hu:Below w.heap.size w u)=>rv27_any r u (h.below hu) hs
 have FA0:=Lib.hid (fun (hv:validR r.c = true) u (hu:Below w.heap.size w u)=>fields27_any r u (h.below hu) hs hv)
 have LS:Hid (validR r.c = true → (pubF r.c).length ≤ 40 ∧ ∀ s ∈ pubF r.c,s.length ≤ 20000):=Lib.hid (fun hv=>⟨by rw [pubF_len]; have:=(validR_pos hv).2; omega,pubF_small hv⟩)
 unfold rvA at *
 obtain ⟨X,hX⟩:∃ X,X = w.alloc (.cells (rvL r).toArray 56):=⟨_,rfl⟩
 obtain ⟨bx,hbx⟩:∃ bx,w.heap.size = bx:=⟨_,rfl⟩
 have BX:Below w.heap.size w X:=by rw [hX]; exact (Below.refl _ _).alloc (Nat.le_refl _) _
 have XX:X.heap[bx]? = some (.cells (rvL r).toArray 56 (0,0)):=by rw [hX,← hbx]; exact heap_alloc_new w _
 have RX:Hid (∀ u,OldB X u → u.rangeAt bx 0 (rvL r)):=Lib.hid (fun u hu=>by have:=range_of_row ((hu.block bx (lt_of_block XX)).trans XX); simpa using this)
 have RX0:=Lib.hid (RX.out X (Below.refl _ _))
 have VA:=Lib.hid (VA0 X BX)
 have BH:=Lib.hid BX
 have IV:Hid (idC r.c = if validR r.c then Dg.sumL (Dg.joined (pubF r.c)) else []):=Lib.hid rfl
 have SZ:(Tryz.prog.info? 56).map (·.size) = some (rvL r).length:=by kernel_rfl
 have X0:=Lib.hid hX
 have X1:=Lib.hid hbx
 generalize idC r.c = R at *
 clear h hs VA0 hX hbx BX XX
 go_enter Tryz.func66, Tryz.ntmps66
 go_upto_region 1 with fail
 rw [← X0.out,X1.out]
 clear X0 X1
 go_wp2_with (refine wpList_load_mid rfl 56 (.tmp 1) rfl bx 0 rfl (rvL r) _ RX0.out Tryz.underlying56 rfl SZ ?_)
 (with_reducible refine VA.out.mono ?_)
 rintro e u1 ⟨rfl,b1⟩
 have B1:=Lib.hid (BH.out.trans (b1.mono BH.out.size))
 have RX1:=Lib.hid (RX.out u1 b1)
 clear b1 VA RX0 RX BH
 cases hv:validR r.c
 ·have PF:Hid (R = []):=Lib.hid (by rw [IV.out,hv]; rfl)
  clear hv IV LS FA0
  go_wp2_with fail
  go_ret
  exact ⟨by rw [PF.out]; rfl,B1.out⟩
 have PF:=Lib.hid (IV.out.trans (by rw [hv,if_pos rfl]))
 have FA:=Lib.hid (FA0.out hv u1 B1.out)
 obtain ⟨l1,l2⟩:=LS.out hv
 have LL:=Lib.hid l2
 clear hv IV LS FA0 l2
 generalize pubF r.c = L at *
 obtain ⟨nl,hnl⟩:∃ n,n = L.length:=⟨_,rfl⟩
 have NL:=Lib.hid hnl
 rw [← hnl] at FA
 clear hnl
 go_wp2_with (refine wpList_load_mid rfl 56 (.tmp 1) rfl bx 0 rfl (rvL r) _ RX1.out Tryz.underlying56 rfl SZ ?_)
 (with_reducible refine FA.out.mono ?_)
 rintro e u2 ⟨⟨A2,c2,rfl,h2⟩,b2⟩
 have B2:=Lib.hid (B1.out.trans (b2.mono B1.out.size))
 have RL:=Lib.hid (rlist_tx A2 nl c2 L u2 NL.out l1 LL.out h2)
 clear b2 FA B1 RX1 SZ h2
 go_wp2_with fail
 (with_reducible refine RL.out.mono ?_)
 rintro e u3 ⟨rfl,b3⟩
 have B3:=Lib.hid (B2.out.trans (b3.mono B2.out.size))
 clear b3 RL B2
 go_wp2_with fail
 go_ret
 exact ⟨by rw [PF.out]; rfl,B3.out⟩
end Go.Proofs.YtniklmikdkjgiaaGreatDoor
