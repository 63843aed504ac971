import Derived.Test.YtniklmikdkjgiaaGreatDoorCLD
import Derived.Test.YtniklmikdkjgiaaGreatDoorDTO
import Derived.Test.YtniklmikdkjgiaaGreatDoorDTP
import Derived.Test.YtniklmikdkjgiaaGreatDoorETQ
import Derived.Test.YtniklmikdkjgiaaGreatDoorDTR
import Derived.Test.YtniklmikdkjgiaaGreatDoorETR
import Derived.Test.YtniklmikdkjgiaaGreatDoorUXO
import Derived.Test.YtniklmikdkjgiaaGreatDoorWD
set_option linter.all false
set_option maxHeartbeats 16000000
set_option maxRecDepth 100000
namespace Go.Proofs.YtniklmikdkjgiaaGreatDoor
open Go.RowKit
theorem sta29_sz (e:Sx):(Tryz.prog.info? 42).map (·.size) = some (stL e).length:=by kernel_rfl
theorem st_row4 {u:World} {g:Nat} {t:TypeId} {a b c d:Value} (h:u.heap[g]? = some (.cells #[a,b,c,d] t (0,0))) (x y z v:Value):(u.setCells g 0 [x,y,z,v]).heap[g]? = some (.cells #[x,y,z,v] t (0,0)) :=
 row_put8 (k:=3) (row_put8 (k:=2) (row_put8 (k:=1) (row_put8 (k:=0) h x) y) z) v
theorem fold_cur {P:RV → Prop} (ms:List Int):∀ (l:List RV) (e:Sx),(∀ r ∈ l,P r) → P e.own → P e.cur → P (l.foldl (ordX ms) e).cur
 | [],_,_,_,h=>h
 | r :: l,e,hl,ho,hc=>by
  have b:=ordX_own ms e r
  refine fold_cur ms l (ordX ms e r) (fun x hx=>hl x (List.mem_cons_of_mem _ hx)) (by rw [b.1]; exact ho) ?_
  unfold ordX obeyS obeyT
  split
  ·split
   ·split
    ·dsimp only
     split
     ·exact hl r List.mem_cons_self
     ·exact ho
    ·exact hc
   ·exact hc
  ·exact hc
def statR (ms:List Int) (l:List RV) (j:Nat) (hj:j < l.length):Sx:=(l.drop (j + 1)).foldl (ordX ms) (newS l[j])
theorem fold_take {ms:List Int} {l:List RV} {j k:Nat} (hk:k < l.length) (hj:j + 1 ≤ k) (e:Sx):((l.take (k + 1)).drop (j + 1)).foldl (ordX ms) e = ordX ms (((l.take k).drop (j + 1)).foldl (ordX ms) e) l[k]:=by
 rw [List.take_succ_eq_append_getElem hk,List.drop_append_of_le_length (by rw [List.length_take]; omega),List.foldl_append]; rfl
theorem status29_any (A:Option Addr) (n c:Nat) (l:List RV) (x:WoV) (j:Nat) (w:World) (hn:n = l.length) (h:Rs w A l) (hx:WoIs w x) (hm:x.mods.length ≤ 1000000) (hj:j < l.length) :
  Calls Tryz.prog 65 #[.slice A n c,woA x,.int .i64 (j:Int)] w fun e w'=>e = .returned (.agg (stL (statR x.mods l j hj)).toArray) ∧ Below w.heap.size w w':=by
 have hl:n ≤ 100000:=by rw [hn]; exact h.len
 have HN:=Lib.hid hn
 obtain ⟨V,hV⟩:∃ V,V = (w.alloc (.cells (woL x).toArray 38)).alloc (.cells #[.string ⟨#[]⟩,.int .i64 0,.string ⟨#[]⟩,.slice none 0 0] 42):=⟨_,rfl⟩
 obtain ⟨bw,hbw⟩:∃ bw,w.heap.size = bw:=⟨_,rfl⟩
 obtain ⟨b6,hb6⟩:∃ b6,w.heap.size + 1 = b6:=⟨_,rfl⟩
 have BV:Below w.heap.size w V:=by rw [hV]; exact ((Below.refl _ _).alloc (Nat.le_refl _) _).alloc (by simp) _
 have ZV:V.heap.size = w.heap.size + 2:=by rw [hV]; simp
 have XW:V.heap[bw]? = some (.cells (woL x).toArray 38 (0,0)):=by rw [hV,← hbw]; exact (alloc_old _ _ (by simp)).trans (heap_alloc_new w _)
 have X6:V.heap[b6]? = some (.cells #[.string ⟨#[]⟩,.int .i64 0,.string ⟨#[]⟩,.slice none 0 0] 42 (0,0)):=by rw [hV,← hb6]; exact alloc_new' _ _ _ (by simp)
 obtain ⟨b0,off0,hA,hb0,hc0⟩:=rvs_at (h.below BV).rd hj
 have hb0w:b0 < w.heap.size:=by
  obtain ⟨b1,off1,hA1,hb1,-⟩:=rvs_at h.rd hj
  rw [hA1] at hA; injection hA with e; injection e with e1 e2; omega
 subst hA
 have HI:=h.is l[j] (List.getElem_mem hj)
 have HS:=h.sz l[j] (List.getElem_mem hj)
 obtain ⟨Aq,cq,vq,heq⟩:=id HI.ed
 have FN:Hid (statR x.mods l j hj = ((l.take n).drop (j + 1)).foldl (ordX x.mods) (newS l[j])):=Lib.hid (by unfold statR; rw [hn,List.take_length])
 have EDA:Hid (∀ r ∈ l,∃ A c,r.edv = .slice A r.edits.length c):=Lib.hid (fun r hr=>by obtain ⟨A,c,e,-⟩:=(h.is r hr).ed; exact ⟨A,c,e⟩)
 have EDQ:Hid (∃ A c,(l[j]).edv = .slice A (l[j]).edits.length c):=Lib.hid ⟨Aq,cq,vq⟩
 have HR:=Lib.hid h
 have HX:=Lib.hid hx
 have HM:=Lib.hid hm
 have RJ:Hid (∀ u,OldB V u → u.rangeAt b0 (off0 + j * 21) (rvL l[j])):=Lib.hid (rangeAt_old hb0 (fun i v hv=>hc0 i v hv))
 have IDq:Hid (∀ u,OldB V u → Calls Tryz.prog 66 #[.agg (rvL l[j]).toArray] u fun e w'=>e = .returned (.string (mkB (idC l[j].c))) ∧ Below u.heap.size u w'):=Lib.hid (fun u hu=>by
  have:=id27_any l[j] u (HI.below (BV.trans (Below.mono hu BV.size))) HS
  exact this)
 have TS:Hid (stL (newS l[j]) = [.string (mkB (idC l[j].c)),.int .i64 1,.string ⟨#[]⟩,.slice Aq (l[j]).edits.length cq]):=Lib.hid (by unfold stL newS; dsimp only; rw [vq]; rfl)
 have E6:∀ u,OldB V u → u.cell? ⟨b0,off0 + j * 21 + 6,none⟩ = some (.slice Aq (l[j]).edits.length cq):=fun u hu=>by rw [← vq]; exact RJ.out u hu 6 _ rfl
 have E6w:Hid (w.cell? ⟨b0,off0 + j * 21 + 6,none⟩ = some (.slice Aq (l[j]).edits.length cq)):=Lib.hid (by
  have:=E6 V (Below.refl _ _)
  rwa [World.cell?_of_block (w:=w) (BV.block b0 hb0w)] at this)
 have QE:Hid (l[j].edv = .slice Aq (l[j]).edits.length cq):=Lib.hid vq
 have ST0:Hid (((l.take (j + 1)).drop (j + 1)).foldl (ordX x.mods) (newS l[j]) = newS l[j]):=Lib.hid (by rw [List.drop_of_length_le (by rw [List.length_take]; omega)]; rfl)
 have OWN:Hid (∀ k,(((l.take k).drop (j + 1)).foldl (ordX x.mods) (newS l[j])).own = l[j]):=Lib.hid (fun k=>(fold_own x.mods _ _).1)
 have CUR:Hid (∀ k,∃ A c,(((l.take k).drop (j + 1)).foldl (ordX x.mods) (newS l[j])).cur.edv = .slice A (((l.take k).drop (j + 1)).foldl (ordX x.mods) (newS l[j])).cur.edits.length c):=Lib.hid (fun k=>fold_cur (P:=fun r=>∃ A c,r.edv = .slice A r.edits.length c) x.mods _ _ (fun r hr=>EDA.out r (List.mem_of_mem_take (List.mem_of_mem_drop hr))) EDQ.out EDQ.out)
 have STP:Hid (∀ k (hk:k < l.length),j + 1 ≤ k → ((l.take (k + 1)).drop (j + 1)).foldl (ordX x.mods) (newS l[j]) = ordX x.mods (((l.take k).drop (j + 1)).foldl (ordX x.mods) (newS l[j])) l[k]):=Lib.hid (fun k hk h1=>fold_take hk h1 _)
 have hjn:j < n:=by rw [hn]; exact hj
 have hb6w:w.heap.size ≤ b6:=by omega
 have NE6:b6 < V.heap.size:=by omega
 have NEw:bw < V.heap.size:=by omega
 generalize statR x.mods l j hj = FINAL at *
 generalize hq:l[j] = q at *
 have ZQ:=rec27_sz q
 obtain ⟨nq,hnq⟩:∃ nq,q.edits.length = nq:=⟨_,rfl⟩
 rw [hnq] at TS E6 E6w QE
 unfold woA
 have X0:=Lib.hid hV
 have X1:=Lib.hid hbw
 have X2:=Lib.hid hb6
 have XWH:=Lib.hid XW
 have X6H:=Lib.hid X6
 have BVH:=Lib.hid BV
 have N6H:=Lib.hid NE6
 have NWH:=Lib.hid NEw
 have HB6:=Lib.hid hb6w
 have HB0:=Lib.hid hb0w
 clear h hx hm hn hV hbw hb6 BV ZV XW X6 hb0 hc0 HI HS vq heq EDA EDQ hj hq hnq NE6 NEw hb6w hb0w
 go_enter Tryz.func65, Tryz.ntmps65
 go_upto_region 1 with fail
 rw [← X0.out,X2.out,X1.out]
 clear X0 X1 X2
 have d1:(j:Int) < (n:Int):=by omega
 have d2:(0:Int) ≤ (j:Int):=by omega
 go_cut [7] (fun s7 wx=>∃ b7,s7 = .pointer (some ⟨b7,0,none⟩) ∧ Hid (wx.heap[b7]? = some (.cells #[.string (mkB (idC q.c)),.int .i64 1,.string ⟨#[]⟩,.slice Aq nq cq] 42 (0,0)) ∧ V.heap.size ≤ b7) ∧ Hid (OldB V wx))
 case first =>
  generalize mkB (idC q.c) = kv at *
  generalize rvL q = ql at *
  (refine wp_region_noPanic ?_; refine wp_region_held_drew (S := (OldB V)) (by kernel_rfl) ?_ (fun hHeld => ?_); exact Below.drew (Below.refl _ _))
  generalize V.drew = ud at *
  (refine tkW 0 ?_; try simp only [gmS])
  (refine tkW 1 ?_; try simp only [gmS])
  (refine tkW 2 ?_; try simp only [gmS])
  (refine ldW 3 56 (.tmp 12) b0 (off0 + j * 21) ql _ RJ.out Tryz.underlying56 ZQ ?_; try simp only [gmS])
  (refine tkW 5 ?_; try simp only [gmS])
  (refine tkW 6 ?_; try simp only [gmS])
  (refine tkW 7 ?_; try simp only [gmS])
  (refine tkW 8 ?_; try simp only [gmS])
  (refine tkW 9 ?_; try simp only [gmS])
  (refine wpAnyH_ready (rs := [4, 11]) (by kernel_rfl) (by simp) ?_; refine AllReadyH.cons (o := _) rfl (fun K hK => ?_) (AllReadyH.cons (o := _) rfl (fun K hK => ?_) AllReadyH.nil))
  ·skip
   go_simp
   (with_reducible refine (IDq.out _ hHeld).mono ?_)
   rintro e x1 ⟨rfl,t1⟩
   (refine hK.out _ _ (OldB.then hHeld t1) (fun hHeld2 => ?_); clear hK K hHeld; have hHeld := hHeld2; clear hHeld2; try simp only [gmS])
   (refine tkW 10 ?_; try simp only [gmS])
   refine rdR 11 (fun K hK=>?_)
   go_simp
   have hp:=Below.size (show Below _ _ _ from hHeld)
   try simp only [World.size_alloc,World.size_drew] at hp
   have hp:=Lib.hid hp
   (refine hK.out _ _ (OldB.alloc hHeld _) (fun hHeld2 => ?_); clear hK K hHeld; have hHeld := hHeld2; clear hHeld2; try simp only [gmS])
   have XA:=Lib.hid (box4_new hHeld)
   try simp only [World.size_alloc] at XA
   refine rdR 12 (fun K hK=>?_)
   refine wp_store_mid 42 (.tmp 7) (.tmp 20) rfl _ 0 #[.string kv,.int .i64 1,.string ⟨#[]⟩,.slice Aq nq cq] rfl rfl (there_of_row XA.out (Nat.le_refl 4)) (by kernel_rfl) (by simp [Value.oneCell']) ?_
   have D4:=Lib.hid (done4 #[.string kv,.int .i64 1,.string ⟨#[]⟩,.slice Aq nq cq] hHeld XA.out hp.out rfl)
   have ROW:=Lib.hid (st_row4 XA.out (.string kv) (.int .i64 1) (.string ⟨#[]⟩) (.slice Aq nq cq))
   have D41:=D4.out.1
   (refine hK.out _ _ D41 (fun hHeld2 => ?_); clear hK K hHeld; have hHeld := hHeld2; clear hHeld2; try simp only [gmS])
   have OZ:=hHeld
   (refine wpAnyH_done (by kernel_rfl) ?_ _; refine NoPanic.normal ?_)
   go_wp2_with fail
   go_meet
   case rel=>exact ⟨_,rfl,Lib.hid ⟨ROW.out,hp.out⟩,Lib.hid OZ⟩
  ·skip
   go_simp
   have hp:=Below.size (show Below _ _ _ from hHeld)
   try simp only [World.size_alloc,World.size_drew] at hp
   have hp:=Lib.hid hp
   (refine hK.out _ _ (OldB.alloc hHeld _) (fun hHeld2 => ?_); clear hK K hHeld; have hHeld := hHeld2; clear hHeld2; try simp only [gmS])
   have XA:=Lib.hid (box4_new hHeld)
   try simp only [World.size_alloc] at XA
   refine rdR 4 (fun K hK=>?_)
   go_simp
   (with_reducible refine (IDq.out _ hHeld).mono ?_)
   rintro e x1 ⟨rfl,t1⟩
   have XA:=Lib.hid ((t1.block _ (lt_of_block XA.out)).trans XA.out)
   (refine hK.out _ _ (OldB.then hHeld t1) (fun hHeld2 => ?_); clear hK K hHeld; have hHeld := hHeld2; clear hHeld2; try simp only [gmS])
   (refine tkW 10 ?_; try simp only [gmS])
   refine rdR 12 (fun K hK=>?_)
   refine wp_store_mid 42 (.tmp 7) (.tmp 20) rfl _ 0 #[.string kv,.int .i64 1,.string ⟨#[]⟩,.slice Aq nq cq] rfl rfl (there_of_row XA.out (Nat.le_refl 4)) (by kernel_rfl) (by simp [Value.oneCell']) ?_
   have D4:=Lib.hid (done4 #[.string kv,.int .i64 1,.string ⟨#[]⟩,.slice Aq nq cq] hHeld XA.out hp.out rfl)
   have ROW:=Lib.hid (st_row4 XA.out (.string kv) (.int .i64 1) (.string ⟨#[]⟩) (.slice Aq nq cq))
   have D41:=D4.out.1
   (refine hK.out _ _ D41 (fun hHeld2 => ?_); clear hK K hHeld; have hHeld := hHeld2; clear hHeld2; try simp only [gmS])
   have OZ:=hHeld
   (refine wpAnyH_done (by kernel_rfl) ?_ _; refine NoPanic.normal ?_)
   go_wp2_with fail
   go_meet
   case rel=>exact ⟨_,rfl,Lib.hid ⟨ROW.out,hp.out⟩,Lib.hid OZ⟩
 case rest =>
  obtain ⟨b7,rfl,ROWH,OCH⟩:=hcut
  have RW0:Hid (wc.heap[b7]? = some (.cells (stL (((l.take (j + 1)).drop (j + 1)).foldl (ordX x.mods) (newS q))).toArray 42 (0,0))):=Lib.hid (by rw [ST0.out,TS.out]; exact ROWH.out.1)
  have HB7:Hid (V.heap.size ≤ b7):=Lib.hid ROWH.out.2
  have OC:=OCH.out
  have BT:Hid (∀ u,But (· = b7) wc u → OldB w u):=Lib.hid (fun u hu=>(BVH.out.trans (Below.mono OC BVH.out.size)).trans (But.below hu (Nat.le_trans BVH.out.size OC.size) (fun k hk=>by rw [hk]; exact Nat.le_trans BVH.out.size HB7.out)))
  have BBL:Hid (∀ u,But (· = b7) wc u → ∀ g,g < V.heap.size → u.heap[g]? = V.heap[g]?):=Lib.hid (fun u hu g hg=>(But.block hu g (Nat.lt_of_lt_of_le hg OC.size) (by have:=HB7.out; omega)).trans (OC.block g hg))
  have RWW:Hid (∀ u,But (· = b7) wc u → u.rangeAt bw 0 (woL x)):=Lib.hid (fun u hu=>by have:=range_of_row ((BBL.out u hu bw NWH.out).trans XWH.out); simpa using this)
  have R6A:Hid (∀ u,But (· = b7) wc u → u.heap[b6]? = some (.cells #[.string ⟨#[]⟩,.int .i64 0,.string ⟨#[]⟩,.slice none 0 0] 42 (0,0))):=Lib.hid (fun u hu=>(BBL.out u hu b6 N6H.out).trans X6H.out)
  have E6B:Hid (∀ u,OldB w u → u.cell? ⟨b0,off0 + j * 21 + 6,none⟩ = some (.slice Aq nq cq)):=Lib.hid (fun u hu=>(World.cell?_of_block (w:=w) (hu.block b0 HB0.out)).trans E6w.out)
  have B0:Hid (But (· = b7) wc wc):=Lib.hid (But.refl _ _)
  clear ROWH OCH OC E6 IDq RJ TS ZQ X6H XWH
  go_upto_region 3 with fail
  go_loopw [8,9] (fun s8 s9 wr=>∃ k:Nat,j + 1 ≤ k ∧ k ≤ n ∧ s8 = .int .i64 (k:Int) ∧ (∃ p,s9 = p) ∧ Hid (wr.heap[b7]? = some (.cells (stL (((l.take k).drop (j + 1)).foldl (ordX x.mods) (newS q))).toArray 42 (0,0))) ∧ Hid (But (· = b7) wc wr)) (fun i _ _=>n - (intOf i).toNat)
  case atStart=>exact ⟨j + 1,Nat.le_refl _,by omega,by go_num,⟨_,rfl⟩,RW0,B0⟩
  case round =>
   clear RW0 B0
   obtain ⟨k,hk1,hkn,rfl,⟨p9,rfl⟩,ROW,BU⟩:=hrel
   by_cases hlt:k < n
   rotate_left
   ·have dk:¬ (k:Int) < (n:Int):=by omega
    obtain rfl:k = n:=by omega
    obtain ⟨Ac,cc,hcu⟩:=CUR.out k
    rw [← FN.out] at ROW hcu
    have R6:=Lib.hid (R6A.out wr BU.out)
    have RR:Hid (wr.rangeAt b7 0 (stL FINAL)):=Lib.hid (by have:=range_of_row ROW.out; simpa using this)
    have ZZ:=sta29_sz FINAL
    have ZA:(Tryz.prog.info? 42).map (·.size) = some (stL FINAL).toArray.size:=by kernel_rfl
    have ONE:(stL FINAL).toArray.all (·.oneCell') = true:=by unfold stL; rw [hcu]; simp [Value.oneCell']
    have LV:=Lib.hid (run_loadVar_mid (P:=Tryz.prog) (wr.setCells b6 0 (stL FINAL)) b6 0 42 (stL FINAL) _ (range_setCells (cs:=(stL FINAL).toArray) R6.out rfl) Tryz.underlying42 rfl ZZ)
    have BB:=Lib.hid (below_setCells (w':=wr) b6 (stL FINAL) 0 wr (BT.out wr BU.out) HB6.out)
    have TH:Hid (wr.there b6 0 (stL FINAL).toArray.size):=Lib.hid (there_of_row R6.out (Nat.le_refl 4))
    clear ROW hcu R6 FN CUR OWN STP
    generalize hfl:stL FINAL = fl at *
    have FH:=Lib.hid hfl
    clear hfl
    go_wp2_with (first
     | (refine wpList_load_mid rfl 42 (.tmp 7) rfl b7 0 rfl fl _ RR.out Tryz.underlying42 rfl ZZ ?_)
     | (refine wpList_store_mid rfl 42 (.tmp 6) (.tmp 84) rfl b6 0 fl.toArray rfl rfl TH.out ZA ONE ?_; rw [List.toList_toArray]))
    exact bodyPost_ret (results_cell1 (i:=6) (t:=42) rfl rfl LV.out) rfl ⟨by rw [FH.out],BB.out⟩
   have dk:(k:Int) < (n:Int):=by omega
   have dk2:(0:Int) ≤ (k:Int):=by omega
   have hkl:k < l.length:=by rw [← HN.out]; exact hlt
   have BW:=BT.out wr BU.out
   obtain ⟨b,off,hAk,hb,hc⟩:=rvs_at (HR.out.rd.below BW) hkl
   cases hAk
   have SK:=Lib.hid (STP.out k hkl hk1)
   have OWk:=OWN.out k
   generalize ((l.take k).drop (j + 1)).foldl (ordX x.mods) (newS q) = e at *
   have HI:=HR.out.is l[k] (List.getElem_mem hkl)
   have HSk:=Lib.hid (HR.out.sz l[k] (List.getElem_mem hkl))
   generalize l[k] = r at *
   have HC:Hid (wr.rangeAt b0 (off0 + k * 21) (rvL r)):=Lib.hid (fun i v hv=>hc i v hv)
   have ONE:=Lib.hid (rvL_one r ⟨_,HI⟩)
   obtain ⟨X,hX⟩:∃ X,X = wr.alloc (.cells (rvL r).toArray 56):=⟨_,rfl⟩
   obtain ⟨bx,hbx⟩:∃ bx,wr.heap.size = bx:=⟨_,rfl⟩
   have BX:Below wr.heap.size wr X:=by rw [hX]; exact (Below.refl _ _).alloc (Nat.le_refl _) _
   have XX:X.heap[bx]? = some (.cells (rvL r).toArray 56 (0,0)):=by rw [hX,← hbx]; exact heap_alloc_new wr _
   have NE:bx ≠ b7:=by have:=lt_of_block ROW.out; omega
   have BUX:But (· = b7) wc X:=BU.out.trans (But.of_below BX)
   have RXA:Hid (∀ u,But (· = b7) X u → u.rangeAt bx 0 (rvL r)):=Lib.hid (fun u hu=>by have:=range_of_row ((But.block hu bx (lt_of_block XX) (by exact NE)).trans XX); simpa using this)
   have k0:∀ u,But (· = b7) X u → u.cell? ⟨bx,0,none⟩ = some (.int .i64 r.kind):=fun u hu=>by simpa using RXA.out u hu 0 _ rfl
   have k1:∀ u,But (· = b7) X u → u.cell? ⟨bx,1,none⟩ = some (.int .i64 r.author):=fun u hu=>by simpa using RXA.out u hu 1 _ rfl
   have k7:∀ u,But (· = b7) X u → u.cell? ⟨bx,7,none⟩ = some (.string (mkB r.target)):=fun u hu=>by simpa using RXA.out u hu 7 _ rfl
   have k9:∀ u,But (· = b7) X u → u.cell? ⟨bx,9,none⟩ = some (.int .i64 r.order):=fun u hu=>by simpa using RXA.out u hu 9 _ rfl
   have k6:∀ u,But (· = b7) X u → u.cell? ⟨bx,6,none⟩ = some r.edv:=fun u hu=>by simpa using RXA.out u hu 6 _ rfl
   have ROWX:Hid (X.heap[b7]? = some (.cells (stL e).toArray 42 (0,0))):=Lib.hid ((BX.block b7 (lt_of_block ROW.out)).trans ROW.out)
   have WA:Hid (∀ u,But (· = b7) X u → But (· = b7) wc u):=Lib.hid (fun u hu=>BUX.trans hu)
   have RW4:=Lib.hid (RWW.out X BUX)
   have IS:=is29_any x r.author X (HX.out.below (BT.out X BUX)) HM.out
   unfold woA at IS
   have ISH:=Lib.hid IS
   have FS:=Lib.hid (fun z (hz:z.length = 21)=>setCells_fresh wr z (rvL r) hz rfl ONE.out)
   have BXX:Hid (But (· = b7) X X):=Lib.hid (But.refl _ _)
   have EDR:Hid (∃ Ar nr cr,r.edv = .slice Ar nr cr):=Lib.hid (by obtain ⟨a,b,c,-⟩:=HI.ed; exact ⟨_,_,_,c⟩)
   have RIS:Hid (∀ u,But (· = b7) X u → RvIs u r):=Lib.hid (fun u hu=>HI.below (BT.out u (BUX.trans hu)))
   have SZL:=rec27_sz r
   have SZA:(Tryz.prog.info? 56).map (·.size) = some (rvL r).toArray.size:=by kernel_rfl
   have X0:=Lib.hid hX
   have X1:=Lib.hid hbx
   have OWH:=Lib.hid OWk
   have k0u:=k0 X BXX.out
   have k1u:=k1 X BXX.out
   clear hc hb hX hbx BX XX NE BUX BW HI IS OWk ROW BU
   by_cases h3:r.kind = 3
   rotate_left
   ·have g1:(r.kind != 3) = true:=by simpa using h3
    have SK2:=Lib.hid (SK.out.trans (show ordX x.mods e r = e by unfold ordX; rw [if_neg (fun hh=>h3 hh.1)]))
    clear h3 SK k0 k1 k7 k9 k6
    go_wp2_with (first
     | (refine wpList_load_mid rfl 56 (.tmp 31) rfl b0 (off0 + k * 21) rfl (rvL r) _ HC.out Tryz.underlying56 rfl SZL ?_)
     | (refine wpList_store_mid rfl 56 (.tmp 9) (.tmp 32) rfl wr.heap.size 0 (rvL r).toArray rfl rfl (there_of_row (heap_alloc_new wr _) (Nat.le_refl 21)) SZA ONE.out ?_; rw [List.toList_toArray,FS.out _ rfl,← X0.out,X1.out]))
    exact ⟨⟨k + 1,by omega,by omega,by go_num,⟨_,rfl⟩,by rw [SK2.out]; exact ROWX,Lib.hid (WA.out X BXX.out)⟩,by simp [intOf]; omega⟩
   have g1:(r.kind != 3) = false:=by rw [h3]; rfl
   go_wp2_with (first
    | (refine wpList_load_mid rfl 56 (.tmp 31) rfl b0 (off0 + k * 21) rfl (rvL r) _ HC.out Tryz.underlying56 rfl SZL ?_)
    | (refine wpList_store_mid rfl 56 (.tmp 9) (.tmp 32) rfl wr.heap.size 0 (rvL r).toArray rfl rfl (there_of_row (heap_alloc_new wr _) (Nat.le_refl 21)) SZA ONE.out ?_; rw [List.toList_toArray,FS.out _ rfl,← X0.out,X1.out])
    | (refine wpList_load_midG (by simp [Region.wanted,yielded]; done) 38 (.tmp 4) rfl bw 0 rfl (woL x) _ RW4.out Tryz.underlying38 rfl (mwo_szL x) ?_))
   (with_reducible refine ISH.out.mono ?_)
   rintro en u2 ⟨rfl,b2⟩
   have BU2:But (· = b7) X u2:=But.of_below b2
   have ROW2:=Lib.hid ((b2.block b7 (lt_of_block ROWX.out)).trans ROWX.out)
   have k7u:=k7 u2 BU2
   have k9u:=k9 u2 BU2
   have i0:u2.cell? ⟨b7,0,none⟩ = some (.string (mkB e.id)):=load_block (i:=0) ROW2.out rfl
   have B2H:=Lib.hid BU2
   have ta:=mkB_tl r.target
   have tb:=mkB_tl e.id
   have DONE:Hid (ordX x.mods e r = e → u2.heap[b7]? = some (.cells (stL (((l.take (k + 1)).drop (j + 1)).foldl (ordX x.mods) (newS q))).toArray 42 (0,0))):=Lib.hid (fun hh=>by
    show u2.heap[b7]? = _
    rw [SK.out,hh]; exact ROW2.out)
   clear b2 ISH k0u k1u BU2 HC ONE FS X0 X1 RW4 SZA k0 k1
   cases hin:inI x.mods r.author
   ·have DN:=Lib.hid (DONE.out (by unfold ordX; rw [if_neg (fun hh=>by rw [hin] at hh; cases hh.2)]))
    clear hin h3 DONE SK k7 k9 k6
    go_wp2_with fail
    exact ⟨⟨k + 1,by omega,by omega,by go_num,⟨_,rfl⟩,Lib.hid DN.out,Lib.hid (WA.out u2 B2H.out)⟩,by simp [intOf]; omega⟩
   by_cases ht:e.id = r.target
   rotate_left
   ·have g2:(r.target == e.id) = false:=by simpa using fun hh:r.target = e.id=>ht hh.symm
    have g3:(r.target != e.id) = true:=by simpa using fun hh:r.target = e.id=>ht hh.symm
    have DN:=Lib.hid (DONE.out (by unfold ordX obeyS; rw [if_neg ht]; exact ite_self _))
    clear hin h3 ht DONE SK k7 k9 k6
    go_wp2_with fail
    exact ⟨⟨k + 1,by omega,by omega,by go_num,⟨_,rfl⟩,Lib.hid DN.out,Lib.hid (WA.out u2 B2H.out)⟩,by simp [intOf]; omega⟩
   have g2:(r.target == e.id) = true:=by rw [ht]; simp
   have g3:(r.target != e.id) = false:=by rw [ht]; simp
   by_cases ho1:1 ≤ r.order
   rotate_left
   ·have g4:r.order < 1:=by omega
    have g5:decide (r.order < 1) = true:=decide_eq_true g4
    have DN:=Lib.hid (DONE.out (by unfold ordX obeyS obeyT; rw [if_neg (c:=1 ≤ r.order ∧ r.order ≤ 4) (fun hh=>ho1 hh.1),ite_self,ite_self]))
    clear hin h3 ht ho1 DONE SK k7 k9 k6
    go_wp2_with fail
    exact ⟨⟨k + 1,by omega,by omega,by go_num,⟨_,rfl⟩,Lib.hid DN.out,Lib.hid (WA.out u2 B2H.out)⟩,by simp [intOf]; omega⟩
   have g4:¬ r.order < 1:=by omega
   have g5:decide (r.order < 1) = false:=decide_eq_false g4
   by_cases ho4:r.order ≤ 4
   rotate_left
   ·have g6:4 < r.order:=by omega
    have g7:decide (4 < r.order) = true:=decide_eq_true g6
    have DN:=Lib.hid (DONE.out (by unfold ordX obeyS obeyT; rw [if_neg (c:=1 ≤ r.order ∧ r.order ≤ 4) (fun hh=>ho4 hh.2),ite_self,ite_self]))
    clear hin h3 ht ho1 ho4 DONE SK k7 k9 k6
    go_wp2_with fail
    exact ⟨⟨k + 1,by omega,by omega,by go_num,⟨_,rfl⟩,Lib.hid DN.out,Lib.hid (WA.out u2 B2H.out)⟩,by simp [intOf]; omega⟩
   have g6:¬ 4 < r.order:=by omega
   have g7:decide (4 < r.order) = false:=decide_eq_false g6
   have OR:Hid (ordX x.mods e r = ⟨e.id,stOf r.order,idC r.c,q,if r.order = 3 then r else q⟩):=Lib.hid (by unfold ordX; rw [if_pos ⟨h3,hin⟩,obey_hit ht ⟨ho1,ho4⟩,OWH.out])
   have IDr:Hid (Calls Tryz.prog 66 #[.agg (rvL r).toArray] u2 fun e w'=>e = .returned (.string (mkB (idC r.c))) ∧ Below u2.heap.size u2 w'):=Lib.hid (id27_any r u2 (RIS.out u2 B2H.out) HSk.out)
   have RX2:=Lib.hid (RXA.out u2 B2H.out)
   clear hin h3 ht DONE
   go_wp2_with (refine wpList_load_mid rfl 56 (.tmp 9) rfl bx 0 rfl (rvL r) _ RX2.out Tryz.underlying56 rfl SZL ?_)
   (with_reducible refine IDr.out.mono ?_)
   rintro en u3 ⟨rfl,b3⟩
   have BU3:But (· = b7) X u3:=B2H.out.trans (But.of_below b3)
   have ROW3:u3.heap[b7]? = some (.cells #[.string (mkB e.id),.int .i64 e.st,.string (mkB e.by_),e.cur.edv] 42 (0,0)):=(b3.block b7 (lt_of_block ROW2.out)).trans ROW2.out
   clear b3 IDr RX2 SZL i0 k7u k9u g1 g2 g3 g4 g5 g6 g7 ta tb
   obtain ⟨rv,hrv⟩:∃ rv,mkB (idC r.c) = rv:=⟨_,rfl⟩
   have RVE:=Lib.hid hrv
   rw [hrv]
   clear hrv
   obtain ⟨Ar,nr,cr,hre⟩:=EDR.out
   rw [hre] at k6
   have HO14:=And.intro ho1 ho4
   clear ho1 ho4
   obtain ho | ho | ho | ho:r.order = 1 ∨ r.order = 2 ∨ r.order = 3 ∨ r.order = 4:=by omega
   ·skip
    rw [ho] at k9 OR
    have fr:=free_blk ROW3 2
    have tr:=cell_of_row _ b7 2 _ _ _ ROW3
    simp at tr
    go_upto_region 8 with fail
    obtain ⟨Ua,hUa⟩:∃ U,U = u3.setCell ⟨b7,2,none⟩ (.string rv):=⟨_,rfl⟩
    have ROWa:Ua.heap[b7]? = some (.cells #[.string (mkB e.id),.int .i64 e.st,.string rv,e.cur.edv] 42 (0,0)):=by rw [hUa]; exact row_put8 (k:=2) ROW3 (.string rv)
    have BUa:But (· = b7) X Ua:=by rw [hUa]; exact But.set (p:=⟨b7,2,none⟩) BU3 rfl _
    rw [← hUa]
    clear fr tr hUa ROW3 BU3
    have fr:=free_blk ROWa 1
    have tr:=cell_of_row _ b7 1 _ _ _ ROWa
    simp at tr
    go_upto_region 9 with fail
    obtain ⟨Ub,hUb⟩:∃ U,U = Ua.setCell ⟨b7,1,none⟩ (.int .i64 1):=⟨_,rfl⟩
    have ROWb:Ub.heap[b7]? = some (.cells #[.string (mkB e.id),.int .i64 1,.string rv,e.cur.edv] 42 (0,0)):=by rw [hUb]; exact row_put8 (k:=1) ROWa (.int .i64 1)
    have BUb:But (· = b7) X Ub:=by rw [hUb]; exact But.set (p:=⟨b7,1,none⟩) BUa rfl _
    rw [← hUb]
    clear fr tr hUb ROWa BUa
    have e6:=E6B.out Ub (BT.out Ub (WA.out Ub BUb))
    have fr:=free_blk ROWb 3
    have tr:=cell_of_row _ b7 3 _ _ _ ROWb
    simp at tr
    go_upto_region 10 with fail
    obtain ⟨Uc,hUc⟩:∃ U,U = Ub.setCell ⟨b7,3,none⟩ (.slice Aq nq cq):=⟨_,rfl⟩
    have ROWc:Uc.heap[b7]? = some (.cells #[.string (mkB e.id),.int .i64 1,.string rv,.slice Aq nq cq] 42 (0,0)):=by rw [hUc]; exact row_put8 (k:=3) ROWb (.slice Aq nq cq)
    have BUc:But (· = b7) X Uc:=by rw [hUc]; exact But.set (p:=⟨b7,3,none⟩) BUb rfl _
    rw [← hUc]
    clear fr tr hUc ROWb BUb
    clear e6
    have k9c:=k9 Uc BUc
    have FR:Hid (Uc.heap[b7]? = some (.cells (stL (((l.take (k + 1)).drop (j + 1)).foldl (ordX x.mods) (newS q))).toArray 42 (0,0))):=Lib.hid (by
     rw [SK.out,OR.out]
     have hq2:q.edv = _:=QE.out
     show _ = some (Obj.cells #[.string (mkB e.id),.int .i64 1,.string (mkB (idC r.c)),q.edv] 42 (0,0))
     rw [hq2,RVE.out]; exact ROWc)
    have FB:=Lib.hid (WA.out Uc BUc)
    clear ROWc BUc SK OR k6 k9
    go_wp2_with fail
    exact ⟨⟨k + 1,by omega,by omega,by go_num,⟨_,rfl⟩,FR,FB⟩,by simp [intOf]; omega⟩
   ·skip
    rw [ho] at k9 OR
    have fr:=free_blk ROW3 2
    have tr:=cell_of_row _ b7 2 _ _ _ ROW3
    simp at tr
    go_upto_region 8 with fail
    obtain ⟨Ua,hUa⟩:∃ U,U = u3.setCell ⟨b7,2,none⟩ (.string rv):=⟨_,rfl⟩
    have ROWa:Ua.heap[b7]? = some (.cells #[.string (mkB e.id),.int .i64 e.st,.string rv,e.cur.edv] 42 (0,0)):=by rw [hUa]; exact row_put8 (k:=2) ROW3 (.string rv)
    have BUa:But (· = b7) X Ua:=by rw [hUa]; exact But.set (p:=⟨b7,2,none⟩) BU3 rfl _
    rw [← hUa]
    clear fr tr hUa ROW3 BU3
    have fr:=free_blk ROWa 1
    have tr:=cell_of_row _ b7 1 _ _ _ ROWa
    simp at tr
    go_upto_region 9 with fail
    obtain ⟨Ub,hUb⟩:∃ U,U = Ua.setCell ⟨b7,1,none⟩ (.int .i64 1):=⟨_,rfl⟩
    have ROWb:Ub.heap[b7]? = some (.cells #[.string (mkB e.id),.int .i64 1,.string rv,e.cur.edv] 42 (0,0)):=by rw [hUb]; exact row_put8 (k:=1) ROWa (.int .i64 1)
    have BUb:But (· = b7) X Ub:=by rw [hUb]; exact But.set (p:=⟨b7,1,none⟩) BUa rfl _
    rw [← hUb]
    clear fr tr hUb ROWa BUa
    have e6:=E6B.out Ub (BT.out Ub (WA.out Ub BUb))
    have fr:=free_blk ROWb 3
    have tr:=cell_of_row _ b7 3 _ _ _ ROWb
    simp at tr
    go_upto_region 10 with fail
    obtain ⟨Uc,hUc⟩:∃ U,U = Ub.setCell ⟨b7,3,none⟩ (.slice Aq nq cq):=⟨_,rfl⟩
    have ROWc:Uc.heap[b7]? = some (.cells #[.string (mkB e.id),.int .i64 1,.string rv,.slice Aq nq cq] 42 (0,0)):=by rw [hUc]; exact row_put8 (k:=3) ROWb (.slice Aq nq cq)
    have BUc:But (· = b7) X Uc:=by rw [hUc]; exact But.set (p:=⟨b7,3,none⟩) BUb rfl _
    rw [← hUc]
    clear fr tr hUc ROWb BUb
    clear e6
    have k9c:=k9 Uc BUc
    have fr:=free_blk ROWc 1
    have tr:=cell_of_row _ b7 1 _ _ _ ROWc
    simp at tr
    go_upto_region 12 with fail
    obtain ⟨Ud,hUd⟩:∃ U,U = Uc.setCell ⟨b7,1,none⟩ (.int .i64 2):=⟨_,rfl⟩
    have ROWd:Ud.heap[b7]? = some (.cells #[.string (mkB e.id),.int .i64 2,.string rv,.slice Aq nq cq] 42 (0,0)):=by rw [hUd]; exact row_put8 (k:=1) ROWc (.int .i64 2)
    have BUd:But (· = b7) X Ud:=by rw [hUd]; exact But.set (p:=⟨b7,1,none⟩) BUc rfl _
    rw [← hUd]
    clear fr tr hUd ROWc BUc
    clear k9c
    have k9c:=k9 Ud BUd
    have FR:Hid (Ud.heap[b7]? = some (.cells (stL (((l.take (k + 1)).drop (j + 1)).foldl (ordX x.mods) (newS q))).toArray 42 (0,0))):=Lib.hid (by
     rw [SK.out,OR.out]
     have hq2:q.edv = _:=QE.out
     show _ = some (Obj.cells #[.string (mkB e.id),.int .i64 2,.string (mkB (idC r.c)),q.edv] 42 (0,0))
     rw [hq2,RVE.out]; exact ROWd)
    have FB:=Lib.hid (WA.out Ud BUd)
    clear ROWd BUd SK OR k6 k9
    go_wp2_with fail
    exact ⟨⟨k + 1,by omega,by omega,by go_num,⟨_,rfl⟩,FR,FB⟩,by simp [intOf]; omega⟩
   ·skip
    rw [ho] at k9 OR
    have fr:=free_blk ROW3 2
    have tr:=cell_of_row _ b7 2 _ _ _ ROW3
    simp at tr
    go_upto_region 8 with fail
    obtain ⟨Ua,hUa⟩:∃ U,U = u3.setCell ⟨b7,2,none⟩ (.string rv):=⟨_,rfl⟩
    have ROWa:Ua.heap[b7]? = some (.cells #[.string (mkB e.id),.int .i64 e.st,.string rv,e.cur.edv] 42 (0,0)):=by rw [hUa]; exact row_put8 (k:=2) ROW3 (.string rv)
    have BUa:But (· = b7) X Ua:=by rw [hUa]; exact But.set (p:=⟨b7,2,none⟩) BU3 rfl _
    rw [← hUa]
    clear fr tr hUa ROW3 BU3
    have fr:=free_blk ROWa 1
    have tr:=cell_of_row _ b7 1 _ _ _ ROWa
    simp at tr
    go_upto_region 9 with fail
    obtain ⟨Ub,hUb⟩:∃ U,U = Ua.setCell ⟨b7,1,none⟩ (.int .i64 1):=⟨_,rfl⟩
    have ROWb:Ub.heap[b7]? = some (.cells #[.string (mkB e.id),.int .i64 1,.string rv,e.cur.edv] 42 (0,0)):=by rw [hUb]; exact row_put8 (k:=1) ROWa (.int .i64 1)
    have BUb:But (· = b7) X Ub:=by rw [hUb]; exact But.set (p:=⟨b7,1,none⟩) BUa rfl _
    rw [← hUb]
    clear fr tr hUb ROWa BUa
    have e6:=E6B.out Ub (BT.out Ub (WA.out Ub BUb))
    have fr:=free_blk ROWb 3
    have tr:=cell_of_row _ b7 3 _ _ _ ROWb
    simp at tr
    go_upto_region 10 with fail
    obtain ⟨Uc,hUc⟩:∃ U,U = Ub.setCell ⟨b7,3,none⟩ (.slice Aq nq cq):=⟨_,rfl⟩
    have ROWc:Uc.heap[b7]? = some (.cells #[.string (mkB e.id),.int .i64 1,.string rv,.slice Aq nq cq] 42 (0,0)):=by rw [hUc]; exact row_put8 (k:=3) ROWb (.slice Aq nq cq)
    have BUc:But (· = b7) X Uc:=by rw [hUc]; exact But.set (p:=⟨b7,3,none⟩) BUb rfl _
    rw [← hUc]
    clear fr tr hUc ROWb BUb
    clear e6
    have k9c:=k9 Uc BUc
    have k6c:=k6 Uc BUc
    have fr:=free_blk ROWc 3
    have tr:=cell_of_row _ b7 3 _ _ _ ROWc
    simp at tr
    go_upto_region 4 with fail
    obtain ⟨Ud,hUd⟩:∃ U,U = Uc.setCell ⟨b7,3,none⟩ (.slice Ar nr cr):=⟨_,rfl⟩
    have ROWd:Ud.heap[b7]? = some (.cells #[.string (mkB e.id),.int .i64 1,.string rv,.slice Ar nr cr] 42 (0,0)):=by rw [hUd]; exact row_put8 (k:=3) ROWc (.slice Ar nr cr)
    have BUd:But (· = b7) X Ud:=by rw [hUd]; exact But.set (p:=⟨b7,3,none⟩) BUc rfl _
    rw [← hUd]
    clear fr tr hUd ROWc BUc
    clear k9c k6c
    have FR:Hid (Ud.heap[b7]? = some (.cells (stL (((l.take (k + 1)).drop (j + 1)).foldl (ordX x.mods) (newS q))).toArray 42 (0,0))):=Lib.hid (by
     rw [SK.out,OR.out]
     have hq2:r.edv = _:=hre
     show _ = some (Obj.cells #[.string (mkB e.id),.int .i64 1,.string (mkB (idC r.c)),r.edv] 42 (0,0))
     rw [hq2,RVE.out]; exact ROWd)
    have FB:=Lib.hid (WA.out Ud BUd)
    clear ROWd BUd SK OR k6 k9
    go_wp2_with fail
    exact ⟨⟨k + 1,by omega,by omega,by go_num,⟨_,rfl⟩,FR,FB⟩,by simp [intOf]; omega⟩
   ·skip
    rw [ho] at k9 OR
    have fr:=free_blk ROW3 2
    have tr:=cell_of_row _ b7 2 _ _ _ ROW3
    simp at tr
    go_upto_region 8 with fail
    obtain ⟨Ua,hUa⟩:∃ U,U = u3.setCell ⟨b7,2,none⟩ (.string rv):=⟨_,rfl⟩
    have ROWa:Ua.heap[b7]? = some (.cells #[.string (mkB e.id),.int .i64 e.st,.string rv,e.cur.edv] 42 (0,0)):=by rw [hUa]; exact row_put8 (k:=2) ROW3 (.string rv)
    have BUa:But (· = b7) X Ua:=by rw [hUa]; exact But.set (p:=⟨b7,2,none⟩) BU3 rfl _
    rw [← hUa]
    clear fr tr hUa ROW3 BU3
    have fr:=free_blk ROWa 1
    have tr:=cell_of_row _ b7 1 _ _ _ ROWa
    simp at tr
    go_upto_region 9 with fail
    obtain ⟨Ub,hUb⟩:∃ U,U = Ua.setCell ⟨b7,1,none⟩ (.int .i64 1):=⟨_,rfl⟩
    have ROWb:Ub.heap[b7]? = some (.cells #[.string (mkB e.id),.int .i64 1,.string rv,e.cur.edv] 42 (0,0)):=by rw [hUb]; exact row_put8 (k:=1) ROWa (.int .i64 1)
    have BUb:But (· = b7) X Ub:=by rw [hUb]; exact But.set (p:=⟨b7,1,none⟩) BUa rfl _
    rw [← hUb]
    clear fr tr hUb ROWa BUa
    have e6:=E6B.out Ub (BT.out Ub (WA.out Ub BUb))
    have fr:=free_blk ROWb 3
    have tr:=cell_of_row _ b7 3 _ _ _ ROWb
    simp at tr
    go_upto_region 10 with fail
    obtain ⟨Uc,hUc⟩:∃ U,U = Ub.setCell ⟨b7,3,none⟩ (.slice Aq nq cq):=⟨_,rfl⟩
    have ROWc:Uc.heap[b7]? = some (.cells #[.string (mkB e.id),.int .i64 1,.string rv,.slice Aq nq cq] 42 (0,0)):=by rw [hUc]; exact row_put8 (k:=3) ROWb (.slice Aq nq cq)
    have BUc:But (· = b7) X Uc:=by rw [hUc]; exact But.set (p:=⟨b7,3,none⟩) BUb rfl _
    rw [← hUc]
    clear fr tr hUc ROWb BUb
    clear e6
    have k9c:=k9 Uc BUc
    have fr:=free_blk ROWc 1
    have tr:=cell_of_row _ b7 1 _ _ _ ROWc
    simp at tr
    go_upto_region 14 with fail
    obtain ⟨Ud,hUd⟩:∃ U,U = Uc.setCell ⟨b7,1,none⟩ (.int .i64 3):=⟨_,rfl⟩
    have ROWd:Ud.heap[b7]? = some (.cells #[.string (mkB e.id),.int .i64 3,.string rv,.slice Aq nq cq] 42 (0,0)):=by rw [hUd]; exact row_put8 (k:=1) ROWc (.int .i64 3)
    have BUd:But (· = b7) X Ud:=by rw [hUd]; exact But.set (p:=⟨b7,1,none⟩) BUc rfl _
    rw [← hUd]
    clear fr tr hUd ROWc BUc
    clear k9c
    have k9c:=k9 Ud BUd
    have FR:Hid (Ud.heap[b7]? = some (.cells (stL (((l.take (k + 1)).drop (j + 1)).foldl (ordX x.mods) (newS q))).toArray 42 (0,0))):=Lib.hid (by
     rw [SK.out,OR.out]
     have hq2:q.edv = _:=QE.out
     show _ = some (Obj.cells #[.string (mkB e.id),.int .i64 3,.string (mkB (idC r.c)),q.edv] 42 (0,0))
     rw [hq2,RVE.out]; exact ROWd)
    have FB:=Lib.hid (WA.out Ud BUd)
    clear ROWd BUd SK OR k6 k9
    go_wp2_with fail
    exact ⟨⟨k + 1,by omega,by omega,by go_num,⟨_,rfl⟩,FR,FB⟩,by simp [intOf]; omega⟩
end Go.Proofs.YtniklmikdkjgiaaGreatDoor
namespace Go.Proofs.YtniklmikdkjgiaaGreatDoor
open Go.RowKit
theorem rstatus29_any (A:Option Addr) (n c:Nat) (l:List RV) (x:WoV) (w:World) (hn:n = l.length) (h:Rs w A l) (hx:WoIs w x) (hm:x.mods.length ≤ 1000000) :
  Calls Tryz.prog 33 #[.slice A n c,woA x] w fun e w'=>∃ v,e = .returned v ∧ w'.ownsRow w.heap.size 42 4 v (entS x.mods l).length (stsL (entS x.mods l)) ∧ Below w.heap.size w w':=by
 have hl:l.length ≤ 100000:=h.len
 obtain ⟨V,hV⟩:∃ V,V = w.alloc (.cells (woL x).toArray 38):=⟨_,rfl⟩
 obtain ⟨bw,hbw⟩:∃ bw,w.heap.size = bw:=⟨_,rfl⟩
 have BV:Below w.heap.size w V:=by rw [hV]; exact (Below.refl _ _).alloc (Nat.le_refl _) _
 have XW:V.heap[bw]? = some (.cells (woL x).toArray 38 (0,0)):=by rw [hV,← hbw]; exact heap_alloc_new w _
 have RWA:Hid (∀ u,OldB V u → u.rangeAt bw 0 (woL x)):=Lib.hid (fun u hu=>by have:=range_of_row ((hu.block bw (lt_of_block XW)).trans XW); simpa using this)
 have SE:=Lib.hid (sets29_any A n c l V hn (h.below BV))
 have BA:Hid (∀ u,OldB V u → Below w.heap.size w u):=Lib.hid (fun u hu=>BV.trans (Below.mono hu BV.size))
 have ST:Hid (∀ (j:Nat) (hj:j < l.length) (u:World),OldB V u → Calls Tryz.prog 65 #[.slice A n c,.agg (woL x).toArray,.int .i64 (j:Int)] u fun e w'=>e = .returned (.agg (stL (statR x.mods l j hj)).toArray) ∧ Below u.heap.size u w'):=Lib.hid (fun j hj u hu=>by
  have:=status29_any A n c l x j u hn (h.below (BA.out u hu)) (hx.below (BA.out u hu)) hm hj
  unfold woA at this
  exact this)
 have LEN:Hid ((entS x.mods l).length = (setsT l l.length).length):=Lib.hid (ent_len x.mods l)
 have LE:(entS x.mods l).length ≤ 100000:=Nat.le_trans (entS_len _ _) hl
 have EAT:Hid (∀ k (hk:k < (entS x.mods l).length) (hs:k < (setsT l l.length).length),∃ hj:(setsT l l.length)[k] < l.length,statR x.mods l (setsT l l.length)[k] hj = (entS x.mods l)[k]):=Lib.hid (fun k hk hs=>ent_at x.mods l hk hs)
 have CU:Hid (∀ e ∈ entS x.mods l,∃ A c,e.cur.edv = .slice A e.cur.edits.length c):=Lib.hid (fun e he=>by obtain ⟨A,c,e1,-⟩:=(h.is _ (entS_from _ _ e he).cur).ed; exact ⟨A,c,e1⟩)
 have SZ:=mwo_szL x
 unfold woA
 have hjl:∀ j:Nat,j < l.length → j < l.length:=fun _ h=>h
 generalize entS x.mods l = es at *
 generalize setsT l l.length = st at *
 generalize woL x = xw at *
 have X0:=Lib.hid hV
 have X1:=Lib.hid hbw
 have BVH:=Lib.hid BV
 clear h hx hm hn hV hbw BV XW hjl
 go_enter Tryz.func33, Tryz.ntmps33
 go_upto_region 1 with fail
 rw [← X0.out,X1.out]
 clear X0 X1
 go_wp2_with fail
 (with_reducible refine SE.out.mono ?_)
 rintro e u1 ⟨⟨A6,c6,rfl,h6⟩,b1⟩
 have O1:OldB V u1:=b1
 obtain ⟨ns,hns⟩:∃ ns,ns = st.length:=⟨_,rfl⟩
 have NS:=Lib.hid hns
 rw [← hns]
 have R6:=Lib.hid h6
 have NE:Hid (es.length = ns):=Lib.hid (by rw [hns]; exact LEN.out)
 have hl2:ns ≤ 100000:=by rw [← NE.out]; exact LE
 have S0:Hid (u1.ownsRow u1.heap.size 42 4 (.slice none 0 0) 0 (stsL (es.take 0))):=Lib.hid (World.ownsRow_nil _ _ _ _)
 clear h6 b1 SE hns LE LEN
 go_wp2_with fail
 go_loopw [5,7] (fun s5 s7 wr=>∃ k:Nat,k ≤ ns ∧ s7 = .int .i64 (k:Int) ∧ Hid (wr.ownsRow u1.heap.size 42 4 s5 k (stsL (es.take k))) ∧ Hid (OldB u1 wr)) (fun _ i _=>ns - (intOf i).toNat)
 case atStart=>exact ⟨0,Nat.zero_le _,rfl,S0,Lib.hid (Below.refl _ _)⟩
 case round =>
  clear S0
  obtain ⟨k,hk,rfl,OW,OH⟩:=hrel
  by_cases hlt:k < ns
  rotate_left
  ·have d1:¬ (k:Int) < (ns:Int):=by omega
   have TT:Hid (es.take k = es):=Lib.hid (List.take_of_length_le (by rw [NE.out]; omega))
   have KM:Hid (k = es.length):=Lib.hid (by rw [NE.out]; omega)
   rw [TT.out,KM.out] at OW
   have FB:=Lib.hid (BA.out wr (O1.then OH.out))
   have F2:=Lib.hid (own_baseG (Nat.le_trans BVH.out.size O1.size) OW.out)
   go_wp2_with fail
   go_ret
   exact ⟨_,rfl,F2.out,FB.out⟩
  have hks:k < st.length:=by rw [← NS.out]; exact hlt
  have hke:k < es.length:=by rw [NE.out]; exact hlt
  have d1:(k:Int) < (ns:Int):=by omega
  have d2:(0:Int) ≤ (k:Int):=by omega
  obtain ⟨g6,o6,hA6,hg6,h6⟩:=R6.out.at_ (k:=k) (by unfold intsN intsL; rw [List.length_map,List.length_map]; exact hks)
  subst hA6
  have i6:u1.cell? ⟨g6,o6 + k,none⟩ = some (.int .i64 (st[k]:Int)):=by rw [h6]; unfold intsN intsL; simp
  obtain ⟨hj,hsr⟩:=EAT.out k hke hks
  obtain ⟨Ac,cc,hcu⟩:=CU.out es[k] (List.getElem_mem hke)
  have TK:Hid (stsL (es.take (k + 1)) = stsL (es.take k) ++ stL es[k]):=Lib.hid (by rw [List.take_succ_eq_append_getElem hke,stsL_app,stsL_one])
  have STJ:=fun u (hu:OldB V u)=>ST.out st[k] hj u hu
  rw [hsr] at STJ
  obtain ⟨nc,hnc⟩:∃ nc,es[k].cur.edits.length = nc:=⟨_,rfl⟩
  have E4:stL es[k] = [.string (mkB es[k].id),.int .i64 es[k].st,.string (mkB es[k].by_),.slice Ac nc cc]:=by unfold stL; rw [hcu,hnc]
  rw [E4] at STJ TK
  clear hsr hcu E4 h6 hnc
  generalize es[k] = e at *
  generalize st[k] = j at *
  have I6:∀ u,OldB u1 u → u.cell? ⟨g6,o6 + k,none⟩ = some (.int .i64 (j:Int)):=fun u hu=>(World.cell?_of_block (w:=u1) (hu.block g6 hg6)).trans i6
  have SJ:Hid (∀ u,OldB u1 u → Calls Tryz.prog 65 #[.slice A n c,.agg xw.toArray,.int .i64 (j:Int)] u fun e2 w'=>e2 = .returned (.agg #[.string (mkB e.id),.int .i64 e.st,.string (mkB e.by_),.slice Ac nc cc]) ∧ Below u.heap.size u w'):=Lib.hid (fun u hu=>STJ u (O1.then hu))
  have RW6:Hid (∀ u,OldB u1 u → u.rangeAt bw 0 xw):=Lib.hid (fun u hu=>RWA.out u (O1.then hu))
  clear STJ hj hg6 i6
  go_upto_region 6 with fail
  (refine wp_region_noPanic ?_; refine wp_region_held_drew (S := (OldB u1)) (by kernel_rfl) ?_ (fun hHeld => ?_); exact Below.drew OH.out)
  have OWD:Hid (wr.drew.ownsRow u1.heap.size 42 4 _ k (stsL (es.take k))):=OW
  generalize wr.drew = ud at *
  (refine tkW 0 ?_; try simp only [gmS])
  (refine tkW 1 ?_; try simp only [gmS])
  (refine ldW 2 38 (.tmp 3) bw 0 xw _ RW6.out Tryz.underlying38 SZ ?_; try simp only [gmS])
  (refine tkW 3 ?_; try simp only [gmS])
  (refine tkW 4 ?_; try simp only [gmS])
  (refine tkW 5 ?_; try simp only [gmS])
  (refine tkW 6 ?_; try simp only [gmS])
  refine rdR 7 (fun K hK=>?_)
  go_simp
  (with_reducible refine (SJ.out _ hHeld).mono ?_)
  rintro e2 x1 ⟨rfl,t1⟩
  have OW1:=Lib.hid (own_sameG OWD.out (fun g hg=>t1.block g (OWD.out.lt g hg).2))
  (refine hK.out _ _ (OldB.then hHeld t1) (fun hHeld2 => ?_); clear hK K hHeld; have hHeld := hHeld2; clear hHeld2; try simp only [gmS])
  refine rdR 8 (fun K hK=>?_)
  go_simp
  have OW2:=Lib.hid (own_below OW1.out ((Below.refl _ _).alloc (Nat.le_refl _) (.cells #[.string (mkB e.id),.int .i64 e.st,.string (mkB e.by_),.slice Ac nc cc] 42)) (Nat.le_refl _))
  have LR:Hid (Rd (x1.alloc (.cells #[.string (mkB e.id),.int .i64 e.st,.string (mkB e.by_),.slice Ac nc cc] 42)) (some ⟨x1.heap.size,0,none⟩) [.string (mkB e.id),.int .i64 e.st,.string (mkB e.by_),.slice Ac nc cc]):=Lib.hid (Rd.of_row (heap_alloc_new x1 _) (List.prefix_refl _))
  (refine hK.out _ _ (OldB.alloc hHeld _) (fun hHeld2 => ?_); clear hK K hHeld; have hHeld := hHeld2; clear hHeld2; try simp only [gmS])
  refine rdR 9 (fun K hK=>?_)
  refine wp_appF (.tmp 16) (.tmp 24) 46 rfl Tryz.underlying46 info_st rfl (by decide) u1.heap.size _ k (stsL (es.take k)) _ 1 1 [.string (mkB e.id),.int .i64 e.st,.string (mkB e.by_),.slice Ac nc cc] (by intro y hy; simp at hy; rcases hy with rfl | rfl | rfl | rfl <;> rfl) rfl rfl OW2.out LR.out rfl (Below.size (show Below _ _ _ from hHeld)) (by omega) (by omega) ?_
  intro v3 w3 ho3 hg3 hq3
  have BG:=Lib.hid (grown_below hg3 (fun k hk=>(own_cells OW2.out hk).1) (Below.size (show Below _ _ _ from hHeld)))
  have OW3:Hid (w3.ownsRow u1.heap.size 42 4 v3 (k + 1) (stsL (es.take (k + 1)))):=Lib.hid (by rw [TK.out]; exact ho3)
  (refine hK.out _ _ (OldB.then2 hHeld BG.out) (fun hHeld2 => ?_); clear hK K hHeld; have hHeld := hHeld2; clear hHeld2; try simp only [gmS])
  (refine tkW 10 ?_; try simp only [gmS])
  have OF:=Lib.hid hHeld
  (refine wpAnyH_done (by kernel_rfl) ?_ _; refine NoPanic.normal ?_)
  go_wp2_with fail
  exact ⟨⟨k + 1,by omega,by go_num,OW3,OF⟩,by simp [intOf]; omega⟩
end Go.Proofs.YtniklmikdkjgiaaGreatDoor
namespace Go.Proofs.YtniklmikdkjgiaaGreatDoor
open Go.RowKit
def zS:Sx:=⟨[],0,[],forgetR 0,forgetR 0⟩
theorem ofV_get (o:Option Sx):ofV o = (stL (o.getD zS)).toArray:=by cases o <;> rfl
theorem zS_ed (w:World):EdIs w zS.cur:=((forgetP 0).is w).ed
theorem ofS_drop {es:List Sx} {t:Tx} {k:Nat} (h:k < es.length):ofS (es.drop k) t = if es[k].id = t then some es[k] else ofS (es.drop (k + 1)) t:=by
 unfold ofS
 rw [List.drop_eq_getElem_cons h,List.find?_cons]
 by_cases e:es[k].id = t <;> simp [e]
theorem rof29_any (A:Option Addr) (n c:Nat) (l:List RV) (x:WoV) (t:Tx) (w:World) (hn:n = l.length) (h:Rs w A l) (hx:WoIs w x) (hm:x.mods.length ≤ 1000000) :
  Calls Tryz.prog 30 #[.slice A n c,woA x,.string (mkB t)] w fun e w'=>e = .returned (.tuple #[.agg (ofV (ofS (entS x.mods l) t)),.bool (hasS (entS x.mods l) t)]) ∧ Below w.heap.size w w':=by
 obtain ⟨V,hV⟩:∃ V,V = (w.alloc (.cells (woL x).toArray 38)).alloc (.cells #[.string ⟨#[]⟩,.int .i64 0,.string ⟨#[]⟩,.slice none 0 0] 42):=⟨_,rfl⟩
 obtain ⟨bw,hbw⟩:∃ bw,w.heap.size = bw:=⟨_,rfl⟩
 obtain ⟨bs,hbs⟩:∃ bs,w.heap.size + 1 = bs:=⟨_,rfl⟩
 have BV:Below w.heap.size w V:=by rw [hV]; exact ((Below.refl _ _).alloc (Nat.le_refl _) _).alloc (by simp) _
 have RV0:V.rangeAt bw 0 (woL x):=by have:=range_of_row (show V.heap[bw]? = some (.cells (woL x).toArray 38 (0,0)) by rw [hV,← hbw]; exact (alloc_old _ _ (by simp)).trans (heap_alloc_new w _)); simpa using this
 have XS:V.heap[bs]? = some (.cells #[.string ⟨#[]⟩,.int .i64 0,.string ⟨#[]⟩,.slice none 0 0] 42 (0,0)):=by rw [hV,← hbs]; exact alloc_new' _ _ _ (by simp)
 have SC0:=rstatus29_any A n c l x V hn (h.below BV) (hx.below BV) hm
 unfold woA at SC0 ⊢
 have CU:Hid (∀ e ∈ entS x.mods l,∃ A c,e.cur.edv = .slice A e.cur.edits.length c):=Lib.hid (fun e he=>by obtain ⟨A,c,e1,-⟩:=(h.is _ (entS_from _ _ e he).cur).ed; exact ⟨A,c,e1⟩)
 have LE:(entS x.mods l).length ≤ 100000:=Nat.le_trans (entS_len _ _) h.len
 have HB2:Hid (w.heap.size ≤ bs):=Lib.hid (by omega)
 have HH:Hid (hasS (entS x.mods l) t = (ofS (entS x.mods l) t).isSome):=Lib.hid (ofS_has _ _).symm
 generalize entS x.mods l = es at *
 obtain ⟨O,hO⟩:∃ O,ofS es t = O:=⟨_,rfl⟩
 have HO0:Hid (O = ofS (es.drop 0) t):=Lib.hid hO.symm
 rw [hO] at HH ⊢
 rw [HH.out]
 have SZ:=mwo_szL x
 generalize woL x = xw at *
 have SC:=Lib.hid SC0
 have R0:=Lib.hid RV0
 have XSH:=Lib.hid XS
 have BVH:=Lib.hid BV
 have X0:=Lib.hid hV
 have X1:=Lib.hid hbw
 have X2:=Lib.hid hbs
 clear h hx hm hn hV hbw hbs BV RV0 XS SC0 hO HH
 go_enter Tryz.func30, Tryz.ntmps30
 go_upto_region 1 with fail
 rw [← X0.out,X2.out,X1.out]
 clear X0 X1 X2
 go_wp2_with (refine wpList_load_mid rfl 38 (.tmp 4) rfl bw 0 rfl xw _ R0.out Tryz.underlying38 rfl SZ ?_)
 (with_reducible refine SC.out.mono ?_)
 rintro e u1 ⟨v,rfl,ho,b1⟩
 obtain ⟨A8,c8,rfl,hR8,-⟩:=own_slG ho
 obtain ⟨n8,hn8⟩:∃ n8,n8 = es.length:=⟨_,rfl⟩
 have N8:=Lib.hid hn8
 rw [← hn8] at LE ⊢
 have R8:=Lib.hid hR8
 have XS1:=Lib.hid ((b1.block bs (lt_of_block XSH.out)).trans XSH.out)
 have B1:=Lib.hid (BVH.out.trans (b1.mono BVH.out.size))
 clear hn8 hR8 ho b1 SC R0 XSH BVH SZ
 go_wp2_with fail
 go_loopw [9] (fun s9 wr=>∃ k:Nat,k ≤ n8 ∧ s9 = .int .i64 (k:Int) ∧ Hid (O = ofS (es.drop k) t) ∧ Hid (wr = u1)) (fun i _=>n8 - (intOf i).toNat)
 case atStart=>exact ⟨0,Nat.zero_le _,rfl,HO0,Lib.hid rfl⟩
 case round =>
  clear HO0
  obtain ⟨k,hk,rfl,HO,EW⟩:=hrel
  have XS2:Hid (wr.heap[bs]? = some (.cells #[.string ⟨#[]⟩,.int .i64 0,.string ⟨#[]⟩,.slice none 0 0] 42 (0,0))):=Lib.hid (by rw [EW.out]; exact XS1.out)
  have B2:Hid (Below w.heap.size w wr):=Lib.hid (by rw [EW.out]; exact B1.out)
  have R82:Hid (Rd wr A8 (stsL es)):=Lib.hid (by rw [EW.out]; exact R8.out)
  by_cases hlt:k < n8
  rotate_left
  ·have d1:¬ (k:Int) < (n8:Int):=by omega
   have ON:Hid (O = none):=Lib.hid (by rw [HO.out,List.drop_eq_nil_of_le (by rw [← N8.out]; omega)]; rfl)
   have LV:=Lib.hid (run_loadVar_mid (P:=Tryz.prog) (wr.setCells bs 0 ((#[.string ⟨#[]⟩,.int .i64 0,.string ⟨#[]⟩,.slice none 0 0]:Array Value)).toList) bs 0 42 ((#[.string ⟨#[]⟩,.int .i64 0,.string ⟨#[]⟩,.slice none 0 0]:Array Value)).toList _ (range_setCells (cs:=#[.string ⟨#[]⟩,.int .i64 0,.string ⟨#[]⟩,.slice none 0 0]) XS2.out rfl) Tryz.underlying42 rfl (by kernel_rfl))
   have BB:=Lib.hid (below_setCells (w':=wr) bs ((#[.string ⟨#[]⟩,.int .i64 0,.string ⟨#[]⟩,.slice none 0 0]:Array Value)).toList 0 wr B2.out HB2.out)
   clear HO
   go_wp2_with (refine wpList_store_mid rfl 42 (.tmp 6) (.tmp 30) rfl bs 0 #[.string ⟨#[]⟩,.int .i64 0,.string ⟨#[]⟩,.slice none 0 0] rfl rfl (there_of_row XS2.out (Nat.le_refl 4)) (by kernel_rfl) (by simp [Value.oneCell']) ?_)
   exact bodyPost_ret (results_cellT (i:=6) (j:=7) (t:=42) rfl rfl LV.out rfl) rfl ⟨by rw [ON.out]; rfl,BB.out⟩
  have hkl:k < es.length:=by rw [← N8.out]; exact hlt
  have d1:(k:Int) < (n8:Int):=by omega
  have d2:(0:Int) ≤ (k:Int):=by omega
  obtain ⟨g8,o8,rfl,hg8,h8⟩:=rd_rows 4 (by decide) (fun _=>rfl) R82.out hkl
  have OD:=Lib.hid (HO.out.trans (ofS_drop hkl))
  obtain ⟨Ac,cc,hcu⟩:=CU.out es[k] (List.getElem_mem hkl)
  generalize es[k] = e at *
  obtain ⟨nc,hnc⟩:∃ nc,e.cur.edits.length = nc:=⟨_,rfl⟩
  have E4:stL e = [.string (mkB e.id),.int .i64 e.st,.string (mkB e.by_),.slice Ac nc cc]:=by unfold stL; rw [hcu,hnc]
  rw [E4] at h8
  have E4H:=Lib.hid E4
  have a0:wr.cell? ⟨g8,o8 + k * 4,none⟩ = some (.string (mkB e.id)):=by simpa using h8 0 _ rfl
  have RR:Hid (wr.rangeAt g8 (o8 + k * 4) [.string (mkB e.id),.int .i64 e.st,.string (mkB e.by_),.slice Ac nc cc]):=Lib.hid h8
  have ta:=mkB_tl e.id
  have tb:=mkB_tl t
  clear HO hcu E4 h8 hg8
  by_cases he:e.id = t
  ·have e1:(e.id == t) = true:=by rw [he]; simp
   have OS:Hid (O = some e):=Lib.hid (OD.out.trans (if_pos he))
   have LV:=Lib.hid (run_loadVar_mid (P:=Tryz.prog) (wr.setCells bs 0 ((#[.string (mkB e.id),.int .i64 e.st,.string (mkB e.by_),.slice Ac nc cc]:Array Value)).toList) bs 0 42 ((#[.string (mkB e.id),.int .i64 e.st,.string (mkB e.by_),.slice Ac nc cc]:Array Value)).toList _ (range_setCells (cs:=#[.string (mkB e.id),.int .i64 e.st,.string (mkB e.by_),.slice Ac nc cc]) XS2.out rfl) Tryz.underlying42 rfl (by kernel_rfl))
   have BB:=Lib.hid (below_setCells (w':=wr) bs ((#[.string (mkB e.id),.int .i64 e.st,.string (mkB e.by_),.slice Ac nc cc]:Array Value)).toList 0 wr B2.out HB2.out)
   have PV:Hid (ofV (some e) = #[.string (mkB e.id),.int .i64 e.st,.string (mkB e.by_),.slice Ac nc cc]):=Lib.hid (by show (stL e).toArray = _; rw [E4H.out])
   clear he OD
   go_wp2_with (first
    | (refine wpList_load_mid rfl 42 (.tmp 28) rfl g8 (o8 + k * 4) rfl [.string (mkB e.id),.int .i64 e.st,.string (mkB e.by_),.slice Ac nc cc] _ RR.out Tryz.underlying42 rfl (by kernel_rfl) ?_)
    | (refine wpList_store_mid rfl 42 (.tmp 6) (.tmp 29) rfl bs 0 #[.string (mkB e.id),.int .i64 e.st,.string (mkB e.by_),.slice Ac nc cc] rfl rfl (there_of_row XS2.out (Nat.le_refl 4)) (by kernel_rfl) (by simp [Value.oneCell']) ?_))
   exact bodyPost_ret (results_cellT (i:=6) (j:=7) (t:=42) rfl rfl LV.out rfl) rfl ⟨by rw [OS.out]; show _ = Ending.returned (.tuple #[.agg (ofV (some e)),.bool true]); rw [PV.out]; rfl,BB.out⟩
  ·have e1:(e.id == t) = false:=by simpa using he
   have O2:Hid (O = ofS (es.drop (k + 1)) t):=Lib.hid (OD.out.trans (if_neg he))
   clear he OD
   go_wp2_with fail
   exact ⟨⟨k + 1,by omega,by go_num,O2,EW⟩,by simp [intOf]; omega⟩
end Go.Proofs.YtniklmikdkjgiaaGreatDoor
namespace Go.Proofs.YtniklmikdkjgiaaGreatDoor
open Go.RowKit
theorem setCells_fresh4 (w:World) (z cs:List Value) (hz:z.length = 4) (hc:cs.length = 4) (h1:cs.toArray.all (·.oneCell') = true):(w.alloc (.cells z.toArray 42)).setCells w.heap.size 0 cs = w.alloc (.cells cs.toArray 42):=by
 have hi:(Tryz.prog.info? 42).map (·.size) = some cs.toArray.size:=by rw [List.size_toArray,hc]; kernel_rfl
 have a:=run_storeVar_new (P:=Tryz.prog) w 42 z.toArray cs.toArray hi (by simp [hz,hc]) h1
 have b:=run_storeVar_mid (P:=Tryz.prog) (w.alloc (.cells z.toArray 42)) w.heap.size 0 42 cs.toArray (there_of_row (heap_alloc_new w _) (by simp [hz,hc])) hi h1
 rw [a] at b
 injection b with _ e
 exact e.symm
theorem walk_ModerateMatchesReference (A:Option Addr) (cA:Nat) (l:List RV) (x:WoV) (s:ByteArray) (w:World) (h:Rw w A l) (hx:WoIs w x) (hs:s.size ≤ 9223372036854775807) (ht:Tab w) :
  Calls Tryz.prog 6 #[.slice A l.length cA,woA x,.string s] w fun e w'=>e = .returned (.bool true) ∧ Below w.heap.size w w':=by
 obtain ⟨t,rfl⟩:∃ t:Tx,s = mkB t:=⟨s.data.toList,by apply ByteArray.ext; simp [mkB]⟩
 unfold woA
 obtain ⟨n1,hn1⟩:∃ n1,n1 = l.length:=⟨_,rfl⟩
 have N1:=Lib.hid hn1
 rw [← hn1]
 obtain ⟨X,hX⟩:∃ X,X = w.alloc (.cells (woL x).toArray 38):=⟨_,rfl⟩
 obtain ⟨bw,hbw⟩:∃ bw,w.heap.size = bw:=⟨_,rfl⟩
 have BX:Below w.heap.size w X:=by rw [hX]; exact (Below.refl _ _).alloc (Nat.le_refl _) _
 have XW:X.heap[bw]? = some (.cells (woL x).toArray 38 (0,0)):=by rw [hX,← hbw]; exact heap_alloc_new w _
 have RX:Hid (∀ u,OldB X u → u.rangeAt bw 0 (woL x)):=Lib.hid (fun u hu=>by have:=range_of_row ((hu.block bw (lt_of_block XW)).trans XW); simpa using this)
 have HD:=Lib.hid (head29_any X (ht.keep BX))
 have BB:Hid (∀ u,OldB X u → Below w.heap.size w u):=Lib.hid (fun u hu=>BX.trans (Below.mono hu BX.size))
 have H1:=Lib.hid h
 have HX:=Lib.hid hx
 have HT:=Lib.hid ht
 have ms:=mkB_len t
 have X0:=Lib.hid hX
 have X1:=Lib.hid hbw
 clear hn1 hX hbw BX XW h hx ht hs
 go_enter Tryz.func6, Tryz.ntmps6
 go_upto_region 1 with fail
 rw [← X0.out,X1.out]
 clear X0 X1
 go_wp2_with fail
 (with_reducible refine HD.out.mono ?_)
 rintro e wd1 ⟨rfl,b1⟩
 have O1:OldB X wd1:=b1
 have FW:=Lib.hid (few29_any A n1 cA l x wd1 N1.out (H1.out.below (BB.out _ O1)) (HX.out.below (BB.out _ O1)))
 unfold woA at FW
 clear b1 HD
 go_wp2_with (refine wpList_load_mid rfl 38 (.tmp 4) rfl bw 0 rfl (woL x) _ (RX.out _ O1) Tryz.underlying38 rfl (mwo_szL x) ?_)
 (with_reducible refine FW.out.mono ?_)
 rintro e wd2 ⟨rfl,b2⟩
 have O2:OldB X wd2:=O1.then b2
 have B2:=Lib.hid (BB.out _ O2)
 clear b2 FW O1
 cases hf:(fewL (rcsC l) 20 && decide (x.mods.length ≤ 60))
 ·go_wp2_with fail
  go_ret
  exact ⟨rfl,B2.out⟩
 by_cases h100:t.length ≤ 100
 rotate_left
 ·have g1:(100:Int) < (t.length:Int):=by omega
  have g2:decide ((100:Int) < (t.length:Int)) = true:=decide_eq_true g1
  clear h100 hf
  go_wp2_with fail
  go_ret
  exact ⟨rfl,B2.out⟩
 have g1:¬ (100:Int) < (t.length:Int):=by omega
 have g2:decide ((100:Int) < (t.length:Int)) = false:=decide_eq_false g1
 rw [Bool.and_eq_true,decide_eq_true_eq] at hf
 obtain ⟨hf1,hf2⟩:=hf
 have R1:=Lib.hid (H1.out.rs (by decide) hf1)
 have ML:Hid (x.mods.length ≤ 1000000):=Lib.hid (Nat.le_trans hf2 (by decide))
 have N100:n1 ≤ 100000:=by rw [N1.out]; exact R1.out.len
 have W3:Hid (∀ u,OldB X u → WoIs u x):=Lib.hid (fun u hu=>HX.out.below (BB.out u hu))
 have T3:Hid (∀ u,OldB X u → Tab u):=Lib.hid (fun u hu=>HT.out.keep (BB.out u hu))
 have OA:=Lib.hid (fun u (hu:OldB X u)=>of_any A n1 cA l x t u N1.out (R1.out.below (BB.out u hu)) (W3.out u hu) ML.out (Nat.le_trans h100 (by decide)) (T3.out u hu))
 have OB:=Lib.hid (fun u (hu:OldB X u)=>rof29_any A n1 cA l x t u N1.out (R1.out.below (BB.out u hu)) (W3.out u hu) ML.out)
 have SA:=Lib.hid (fun u (hu:OldB X u)=>status_any A n1 cA l x u N1.out (R1.out.below (BB.out u hu)) (W3.out u hu) ML.out (T3.out u hu))
 have SB:=Lib.hid (fun u (hu:OldB X u)=>rstatus29_any A n1 cA l x u N1.out (R1.out.below (BB.out u hu)) (W3.out u hu) ML.out)
 unfold woA at OA OB SA SB
 rw [ofV_get] at OA OB
 have VO:Hid ((stL ((ofS (entS x.mods l) t).getD zS)).toArray.all (·.oneCell') = true):=Lib.hid (by
  have:=(ofV_ok (es:=entS x.mods l) (t:=t) (fun e he=>by
   obtain ⟨A9,c9,e9,-⟩:=(R1.out.is _ (entS_from _ _ e he).cur).ed
   exact ⟨A9,c9,e9⟩)).2
  rwa [ofV_get] at this)
 have DL:Hid (∀ e ∈ entS x.mods l,∀ u,OldB X u → EdIs u e.cur):=Lib.hid (fun e he u hu=>((R1.out.is _ (entS_from _ _ e he).cur).below (BB.out u hu)).ed)
 have DE:Hid (∀ u,OldB X u → EdIs u ((ofS (entS x.mods l) t).getD zS).cur):=Lib.hid (fun u hu=>by
  cases hf:ofS (entS x.mods l) t with
  | none=>exact zS_ed u
  | some e=>exact DL.out e (by unfold ofS at hf; exact List.mem_of_find?_eq_some hf) u hu)
 have LL:Hid ((entS x.mods l).length ≤ 100000):=Lib.hid (Nat.le_trans (entS_len _ _) R1.out.len)
 generalize (ofS (entS x.mods l) t).getD zS = z at *
 generalize hasS (entS x.mods l) t = hq at *
 generalize entS x.mods l = es at *
 have SZS:=sta29_sz z
 have SZA:(Tryz.prog.info? 42).map (·.size) = some (stL z).toArray.size:=by kernel_rfl
 have SM:Hid (∀ u,OldB X u → Calls Tryz.prog 34 #[.agg (stL z).toArray,.agg (stL z).toArray] u fun e w'=>e = .returned (.bool true) ∧ Below u.heap.size u w'):=Lib.hid (fun u hu=>by
  have:=same29_any z z u (DE.out u hu) (DE.out u hu)
  rwa [sameX_refl] at this)
 have ZL4:(stL z).length = 4:=rfl
 generalize stL z = zl at *
 have OAV:=Lib.hid (OA.out wd2 O2)
 clear hf1 hf2 h100 OA DE H1 HX HT W3 T3 R1
 go_wp2_with (refine wpList_load_mid rfl 38 (.tmp 4) rfl bw 0 rfl (woL x) _ (RX.out _ O2) Tryz.underlying38 rfl (mwo_szL x) ?_)
 (with_reducible refine OAV.out.mono ?_)
 rintro e v1 ⟨rfl,b1⟩
 have O3:OldB X v1:=O2.then b1
 have FS1:=Lib.hid (fun (y:List Value) (hy:y.length = 4)=>setCells_fresh4 v1 y zl hy ZL4 VO.out)
 obtain ⟨U,hU⟩:∃ U,U = v1.alloc (.cells zl.toArray 42):=⟨_,rfl⟩
 obtain ⟨b8,hb8⟩:∃ b8,v1.heap.size = b8:=⟨_,rfl⟩
 have OU:OldB X U:=by rw [hU]; exact OldB.alloc O3 _
 have XU:U.heap[b8]? = some (.cells zl.toArray 42 (0,0)):=by rw [hU,← hb8]; exact heap_alloc_new v1 _
 have RU:Hid (∀ u,OldB U u → u.rangeAt b8 0 zl):=Lib.hid (fun u hu=>by have:=range_of_row ((hu.block b8 (lt_of_block XU)).trans XU); simpa using this)
 have OBV:=Lib.hid (OB.out U OU)
 have TH1:Hid ((v1.alloc (.cells #[.string ⟨#[]⟩,.int .i64 0,.string ⟨#[]⟩,.slice none 0 0] 42)).there v1.heap.size 0 zl.toArray.size):=Lib.hid (there_of_row (heap_alloc_new v1 _) (by show zl.length ≤ 4; omega))
 have U0:=Lib.hid hU
 have U1:=Lib.hid hb8
 clear b1 OAV hU hb8 XU O3 O2 OB
 go_wp2_with (first
  | (refine wpList_store_mid rfl 42 (.tmp 8) (.tmp 28) rfl v1.heap.size 0 zl.toArray rfl rfl TH1.out SZA VO.out ?_; rw [List.toList_toArray,FS1.out _ rfl,← U0.out,U1.out])
  | (refine wpList_load_mid rfl 38 (.tmp 4) rfl bw 0 rfl (woL x) _ (RX.out _ OU) Tryz.underlying38 rfl (mwo_szL x) ?_))
 (with_reducible refine OBV.out.mono ?_)
 rintro e v2 ⟨rfl,b2⟩
 have O4:OldB U v2:=b2
 have FS2:=Lib.hid (fun (y:List Value) (hy:y.length = 4)=>setCells_fresh4 v2 y zl hy ZL4 VO.out)
 obtain ⟨Y,hY⟩:∃ Y,Y = v2.alloc (.cells zl.toArray 42):=⟨_,rfl⟩
 obtain ⟨b10,hb10⟩:∃ b10,v2.heap.size = b10:=⟨_,rfl⟩
 have OY:OldB U Y:=by rw [hY]; exact OldB.alloc O4 _
 have OYX:OldB X Y:=OU.then OY
 have XY:Y.heap[b10]? = some (.cells zl.toArray 42 (0,0)):=by rw [hY,← hb10]; exact heap_alloc_new v2 _
 have RY:Hid (∀ u,OldB Y u → u.rangeAt b10 0 zl):=Lib.hid (fun u hu=>by have:=range_of_row ((hu.block b10 (lt_of_block XY)).trans XY); simpa using this)
 have RUY:Hid (∀ u,OldB Y u → u.rangeAt b8 0 zl):=Lib.hid (fun u hu=>RU.out u (OY.then hu))
 have RXY:Hid (∀ u,OldB Y u → u.rangeAt bw 0 (woL x)):=Lib.hid (fun u hu=>RX.out u (OYX.then hu))
 have LX:∀ u,OldB Y u → OldB X u:=fun u hu=>OYX.then hu
 have TH2:Hid ((v2.alloc (.cells #[.string ⟨#[]⟩,.int .i64 0,.string ⟨#[]⟩,.slice none 0 0] 42)).there v2.heap.size 0 zl.toArray.size):=Lib.hid (there_of_row (heap_alloc_new v2 _) (by show zl.length ≤ 4; omega))
 have Y0:=Lib.hid hY
 have Y1:=Lib.hid hb10
 have hqq:(hq == hq) = true:=by simp
 clear b2 OBV hY hb10 XY O4 OY RU RX TH1 FS1 U0 U1
 go_upto_region 6 with (refine wpList_store_mid rfl 42 (.tmp 10) (.tmp 35) rfl v2.heap.size 0 zl.toArray rfl rfl TH2.out SZA VO.out ?_; rw [List.toList_toArray,FS2.out _ rfl,← Y0.out,Y1.out])
 clear g1 g2 ms TH2 FS2 Y0 Y1
 (refine wp_region_noPanic ?_; refine wp_region_held_drew (S := (OldB Y)) (by kernel_rfl) ?_ (fun hHeld => ?_); exact Below.drew (Below.refl _ _))
 generalize Y.drew = ud at *
 (refine tkW 0 ?_; try simp only [gmS])
 (refine tkW 1 ?_; try simp only [gmS])
 (refine tkW 2 ?_; try simp only [gmS])
 (refine ldW 3 38 (.tmp 4) bw 0 (woL x) _ RXY.out Tryz.underlying38 (mwo_szL x) ?_; try simp only [gmS])
 (refine tkW 5 ?_; try simp only [gmS])
 (refine ldW 6 38 (.tmp 4) bw 0 (woL x) _ RXY.out Tryz.underlying38 (mwo_szL x) ?_; try simp only [gmS])
 refine rdR 4 (fun K hK=>?_)
 go_simp
 (with_reducible refine (SA.out _ (LX _ hHeld)).mono ?_)
 rintro e z1 ⟨a1,rfl,ho1,t1⟩
 obtain ⟨A9,c9,rfl,hR9,-⟩:=own_slG ho1
 (refine hK.out _ _ (OldB.then hHeld t1) (fun hHeld2 => ?_); clear hK K hHeld; have hHeld := hHeld2; clear hHeld2; try simp only [gmS])
 refine rdR 7 (fun K hK=>?_)
 go_simp
 (with_reducible refine (SB.out _ (LX _ hHeld)).mono ?_)
 rintro e z2 ⟨a2,rfl,ho2,t2⟩
 obtain ⟨A10,c10,rfl,hR10,-⟩:=own_slG ho2
 have AL:Hid (OldB Y z2 → Calls Tryz.prog 31 #[.slice A9 es.length c9,.slice A10 es.length c10] z2 fun e w'=>e = .returned (.bool true) ∧ Below z2.heap.size z2 w'):=Lib.hid (fun hz2=>by
  have:=all29_any A9 A10 c9 c10 es es es.length es.length z2 rfl rfl (by have:=LL.out; omega) (by have:=LL.out; omega) (hR9.below t2) hR10 (fun e he=>DL.out e he z2 (LX _ hz2)) (fun e he=>DL.out e he z2 (LX _ hz2))
  rw [sameXs_refl] at this
  exact this)
 (refine hK.out _ _ (OldB.then hHeld t2) (fun hHeld2 => ?_); clear hK K hHeld; have hHeld := hHeld2; clear hHeld2; try simp only [gmS])
 refine rdR 8 (fun K hK=>?_)
 go_simp
 (with_reducible refine (AL.out hHeld).mono ?_)
 rintro e z3 ⟨rfl,t3⟩
 (refine hK.out _ _ (OldB.then hHeld t3) (fun hHeld2 => ?_); clear hK K hHeld; have hHeld := hHeld2; clear hHeld2; try simp only [gmS])
 (refine tkW 9 ?_; try simp only [gmS])
 (refine tkW 10 ?_; try simp only [gmS])
 (refine tkW 11 ?_; try simp only [gmS])
 (refine tkW 12 ?_; try simp only [gmS])
 (refine tkW 13 ?_; try simp only [gmS])
 (refine tkW 14 ?_; try simp only [gmS])
 (refine tkW 15 ?_; try simp only [gmS])
 (refine ldW 16 42 (.tmp 8) b8 0 zl _ RUY.out Tryz.underlying42 SZS ?_; try simp only [gmS])
 (refine ldW 17 42 (.tmp 10) b10 0 zl _ RY.out Tryz.underlying42 SZS ?_; try simp only [gmS])
 refine rdR 18 (fun K hK=>?_)
 go_simp
 (with_reducible refine (SM.out _ (LX _ hHeld)).mono ?_)
 rintro e z4 ⟨rfl,t4⟩
 (refine hK.out _ _ (OldB.then hHeld t4) (fun hHeld2 => ?_); clear hK K hHeld; have hHeld := hHeld2; clear hHeld2; try simp only [gmS])
 (refine tkW 19 ?_; try simp only [gmS])
 (refine tkW 20 ?_; try simp only [gmS])
 have FF:=Lib.hid (BB.out _ (LX _ hHeld))
 (refine wpAnyH_done (by kernel_rfl) ?_ _; refine NoPanic.normal ?_)
 go_wp2_with fail
 go_ret
 exact ⟨rfl,FF.out⟩
end Go.Proofs.YtniklmikdkjgiaaGreatDoor
