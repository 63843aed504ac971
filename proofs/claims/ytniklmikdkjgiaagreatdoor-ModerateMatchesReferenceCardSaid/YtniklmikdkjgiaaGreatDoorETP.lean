import Derived.Test.YtniklmikdkjgiaaGreatDoorETO
import Derived.Test.YtniklmikdkjgiaaGreatDoorCXN
import Derived.Test.YtniklmikdkjgiaaGreatDoorCYF
set_option linter.all false
set_option maxHeartbeats 16000000
set_option maxRecDepth 100000
namespace Go.Proofs.YtniklmikdkjgiaaGreatDoor
open Go.RowKit Go.Maps Go.ChangeMaps Go.MapKept Go.WideShapes Go.WideMaps
theorem idC_len (c:Rc):(idC c).length ≤ 16:=by
 unfold idC
 split
 ·have:=Dg.sumL_isD (Dg.joined (pubF c))
  unfold Dg.isD at this
  rw [Bool.and_eq_true,decide_eq_true_eq] at this
  omega
 ·exact Nat.zero_le _
theorem EnI.base {w0 V w:World} {bm:Nat} {L:List (Sx × Nat)} {v:Value} {nk:Nat} (h:EnI V w bm L v nk) (hb:Below w0.heap.size w0 V):EnI w0 w bm L v nk :=
 ⟨hb.trans (h.bel.mono hb.size),h.mp,Nat.le_trans hb.size h.bmb,h.box,fun q hq=>Nat.le_trans hb.size (h.big q hq),own_baseG hb.size h.own,h.nd,h.nd2,h.nk⟩
def EnR (V w:World) (bm:Nat) (ms:List Int) (l:List RV) (v:Value):Prop:=∃ L nk,EnI V w bm L v nk ∧ L.map (·.1) = entS ms l
theorem EnR.bel {V w:World} {bm:Nat} {ms:List Int} {l:List RV} {v:Value} (h:EnR V w bm ms l v):Below V.heap.size V w:=by obtain ⟨L,nk,h,-⟩:=h; exact h.bel
theorem entries_any (A:Option Addr) (n c:Nat) (l:List RV) (x:WoV) (w:World) (hn:n = l.length) (h:Rs w A l) (hx:WoIs w x) (hm:x.mods.length ≤ 1000000) (ht:Tab w) :
  Calls Tryz.prog 64 #[.slice A n c,woA x] w fun e w'=>∃ v bm L nk,e = .returned (.tuple #[v,.map (some bm)]) ∧ EnI w w' bm L v nk ∧ L.map (·.1) = entS x.mods l:=by
 have hl:n ≤ 100000:=by rw [hn]; exact h.len
 have H:=Lib.hid h
 have HN:=Lib.hid hn
 have HT:=Lib.hid ht
 obtain ⟨A2,c2,e2,hr2⟩:=hx.ms
 unfold woA
 obtain ⟨bw,hbw⟩:∃ bw,w.heap.size = bw:=⟨_,rfl⟩
 obtain ⟨bm,hbm⟩:∃ bm,w.heap.size + 1 = bm:=⟨_,rfl⟩
 obtain ⟨V,hV⟩:∃ V,V = w.alloc (.cells (woL x).toArray 38):=⟨_,rfl⟩
 obtain ⟨W,hW⟩:∃ W,W = V.alloc (.map #[] 0):=⟨_,rfl⟩
 have hz:V.heap.size = bm:=by rw [hV]; simpa using hbm
 have BV:Below w.heap.size w V:=by rw [hV]; exact (Below.refl _ _).alloc (Nat.le_refl _) _
 have BW:OldB V W:=by rw [hW]; exact (Below.refl _ _).alloc (Nat.le_refl _) _
 have XV:V.heap[bw]? = some (.cells (woL x).toArray 38 (0,0)):=by rw [hV,← hbw]; exact heap_alloc_new w _
 have XVL:=lt_of_block XV
 have MV:∀ u,OldB V u → u.cell? ⟨bw,2,none⟩ = some (.slice A2 x.mods.length c2):=fun u hu=>by
  have:=load_block (i:=2) ((Below.block hu bw XVL).trans XV) rfl
  rw [← e2]; exact this
 have I0:Hid (EnR V W bm x.mods (l.take 0) (.slice none 0 0)):=Lib.hid ⟨[],0,⟨BW,by
  have:=MapAt.made V Tryz.prog 9
  rw [← hW,hz] at this
  have e:ptrM [] = fun _=>none:=by funext y; cases y <;> rfl
  rw [e]; exact this,by omega,(fun q hq=>by cases hq),(fun q hq=>by cases hq),World.ownsRow_nil _ _ _ _,List.nodup_nil,List.nodup_nil,Nat.le_refl _⟩,by rw [List.take_zero]; rfl⟩
 have CT:Hid (∀ a u,OldB V u → Calls Tryz.prog 103 #[.slice A2 x.mods.length c2,.int .i64 a] u fun e w'=>e = .returned (.bool (inI x.mods a)) ∧ Below u.heap.size u w'):=Lib.hid (fun a u hu=>contains_any A2 _ c2 x.mods a u rfl hm (hr2.below (BV.trans (Below.mono hu BV.size))))
 have HV:Hid (Rs V A l):=Lib.hid (h.below BV)
 have TV:Hid (Tab V):=Lib.hid (ht.keep BV)
 have FB:Hid (∀ L v nk u,EnI V u bm L v nk → EnI w u bm L v nk):=Lib.hid (fun L v nk u hu=>hu.base BV)
 generalize x.mods = ms at *
 obtain ⟨nm,hnm⟩:∃ nm,ms.length = nm:=⟨_,rfl⟩
 rw [hnm] at MV CT
 generalize (woL x).toArray = xw at *
 have X1:=Lib.hid hbw
 have X2:=Lib.hid hz
 have X0:=Lib.hid hW
 have XV0:=Lib.hid hV
 clear h hn ht hx hm hbw hbm hW hV hz hr2 e2 BW BV hnm XV XVL H HT
 have mk:∀ u:World,(Instr.makeMap 95 none).run Tryz.prog u = .ok (.map (some u.heap.size)) (u.alloc (.map #[] 0)):=fun u=>run_makeMap _ _
 go_enter Tryz.func64, Tryz.ntmps64
 go_upto_region 2 with fail
 rw [← XV0.out,X1.out]
 go_upto_region 3 with fail
 rw [← X0.out,X2.out]
 clear X0 X1 X2 XV0 mk
 go_wp2_with fail
 go_loopw [6,9,10,11,12,16] (fun s6 s9 s10 s11 s12 s16 wr=>∃ k:Nat,k ≤ n ∧ s16 = .int .i64 (k:Int) ∧ (∃ p,s9 = p) ∧ (∃ p,s10 = p) ∧ (∃ p,s11 = p) ∧ (∃ p,s12 = p) ∧ Hid (EnR V wr bm ms (l.take k) s6)) (fun _ _ _ _ _ i _=>n - (intOf i).toNat)
 case atStart=>exact ⟨0,Nat.zero_le _,rfl,⟨_,rfl⟩,⟨_,rfl⟩,⟨_,rfl⟩,⟨_,rfl⟩,I0⟩
 case round =>
  clear I0
  obtain ⟨k,hk,rfl,⟨p9,rfl⟩,⟨p10,rfl⟩,⟨p11,rfl⟩,⟨p12,rfl⟩,ER⟩:=hrel
  by_cases hlt:k < n
  ·have hkl:k < l.length:=by rw [← HN.out]; exact hlt
   have d1:(k:Int) < (n:Int):=by omega
   have d2:(0:Int) ≤ (k:Int):=by omega
   have OW:OldB V wr:=ER.out.bel
   obtain ⟨L,nk,EI,EL⟩:=ER.out
   have ST:Hid (entS ms (l.take (k + 1)) = stepS ms (entS ms (l.take k)) l[k]):=Lib.hid (entS_take ms l hkl)
   rw [← EL] at ST
   have OWN:Hid (∀ q ∈ L,AnySl q.1.own.edv):=Lib.hid (fun q hq=>by
    have hm:q.1 ∈ entS ms (l.take k):=by rw [← EL]; exact List.mem_map.2 ⟨q,hq,rfl⟩
    obtain ⟨A9,c9,e9,-⟩:=(HV.out.is _ (List.mem_of_mem_take (entS_from ms _ _ hm).own)).ed
    exact ⟨A9,_,c9,e9⟩)
   have LK:Hid (L.length ≤ k):=Lib.hid (by
    have e1:=congrArg List.length EL
    have e3:=entS_len ms (l.take k)
    rw [List.length_map] at e1
    rw [List.length_take] at e3
    omega)
   obtain ⟨b,off,rfl,hb,hc⟩:=rvs_at (HV.out.rd.below OW) hkl
   have HI:=HV.out.is l[k] (List.getElem_mem hkl)
   have HS:=HV.out.sz l[k] (List.getElem_mem hkl)
   have HRM:Hid (l[k] ∈ l):=Lib.hid (List.getElem_mem hkl)
   generalize l[k] = r at *
   obtain ⟨A1,c1,v1,-⟩:=HI.ed
   have ONE:=Lib.hid (rvL_one r ⟨_,HI⟩)
   have HC:Hid (wr.rangeAt b (off + k * 21) (rvL r)):=Lib.hid (fun j v hj=>hc j v hj)
   obtain ⟨X,hX⟩:∃ X,X = wr.alloc (.cells (rvL r).toArray 56):=⟨_,rfl⟩
   obtain ⟨bx,hbx⟩:∃ bx,wr.heap.size = bx:=⟨_,rfl⟩
   have BX:OldB wr X:=by rw [hX]; exact (Below.refl _ _).alloc (Nat.le_refl _) _
   have XX:X.heap[bx]? = some (.cells (rvL r).toArray 56 (0,0)):=by rw [hX,← hbx]; exact heap_alloc_new wr _
   have XL:=lt_of_block XX
   have RX:Hid (∀ u,OldB X u → u.rangeAt bx 0 (rvL r)):=Lib.hid (fun u hu=>by have:=range_of_row ((hu.block bx XL).trans XX); simpa using this)
   have k0:∀ u,OldB X u → u.cell? ⟨bx,0,none⟩ = some (.int .i64 r.kind):=fun u hu=>by have:=RX.out u hu 0 _ rfl; simpa using this
   have k1:∀ u,OldB X u → u.cell? ⟨bx,1,none⟩ = some (.int .i64 r.author):=fun u hu=>by have:=RX.out u hu 1 _ rfl; simpa using this
   have k6:∀ u,OldB X u → u.cell? ⟨bx,6,none⟩ = some (.slice A1 r.edits.length c1):=fun u hu=>by have:=RX.out u hu 6 _ rfl; rw [← v1]; simpa using this
   have k7:∀ u,OldB X u → u.cell? ⟨bx,7,none⟩ = some (.string (mkB r.target)):=fun u hu=>by have:=RX.out u hu 7 _ rfl; simpa using this
   have VX:OldB V X:=OW.then BX
   have SW:OldB X X:=Below.refl _ _
   have EX:=Lib.hid (EI.call BX)
   have V1:=Lib.hid v1
   have IDC:=Lib.hid (id_any r X (HI.below VX) HS (TV.out.keep VX))
   unfold rvA at IDC
   have HR:=Lib.hid (And.intro HI HS)
   have X1:=Lib.hid hbx
   have X0:=Lib.hid hX
   have FS:=Lib.hid (fun z (hz:z.length = 21)=>setCells_fresh wr z (rvL r) hz rfl ONE.out)
   clear hc HI HS hX hbx v1 EI EL ER XX
   by_cases h1:r.kind = 1
   ·have g1:(r.kind == 1) = true:=by rw [h1]; rfl
    have S1:Hid (stepS ms (L.map (·.1)) r = if hasS (L.map (·.1)) (idC r.c) then L.map (·.1) else L.map (·.1) ++ [newS r]):=Lib.hid (by unfold stepS; rw [if_pos h1])
    have IL:=Lib.hid (Nat.le_trans (idC_len r.c) (show (16:Nat) ≤ 1000000 by decide))
    clear h1
    have k0X:=k0 X SW
    go_wp2_with (first
     | (refine wpList_load_mid rfl 56 (.tmp 18) rfl b (off + k * 21) rfl (rvL r) _ HC.out Tryz.underlying56 rfl (mrec_szL r) ?_)
     | (refine wpList_store_mid rfl 56 (.tmp 9) (.tmp 19) rfl wr.heap.size 0 (rvL r).toArray rfl rfl (there_of_row (heap_alloc_new wr _) (Nat.le_refl 21)) (mrec_szA r) ONE.out ?_; rw [List.toList_toArray,FS.out _ rfl,← X0.out,X1.out])
     | (refine wpList_load_mid rfl 56 (.tmp 9) rfl bx 0 rfl (rvL r) _ (RX.out X SW) Tryz.underlying56 rfl (mrec_szL r) ?_))
    (with_reducible refine IDC.out.mono ?_)
    rintro e u1 ⟨rfl,b1⟩
    have O1:OldB X u1:=b1
    have E1:=Lib.hid (EX.out.call b1)
    clear b1 IDC EX k0X X0 X1 FS
    have KS:=key_str (idC r.c) IL.out
    have lk:=E1.out.mp.look strK Tryz.underlying95 (zPtr u1) KS
    cases hf:findE L (idC r.c) with
    | some q =>
     have lv:((ptrM L (.string (idC r.c))).getD (.pointer none)) = .pointer (some ⟨q.2,0,none⟩):=by
      show ((findE L (idC r.c)).map pv).getD _ = _
      rw [hf]; rfl
     rw [lv] at lk
     have TK:Hid (entS ms (l.take (k + 1)) = L.map (·.1)):=Lib.hid (by rw [ST.out,S1.out,findE_has hf,if_pos rfl])
     clear hf lv KS k0 k1 k6 k7 ST S1
     go_wp2_with fail
     exact ⟨⟨k + 1,by omega,by go_num,⟨_,rfl⟩,⟨_,rfl⟩,⟨_,rfl⟩,⟨_,rfl⟩,Lib.hid ⟨L,nk,E1.out,TK.out.symm⟩⟩,by simp [intOf]; omega⟩
    | none =>
     have lv:((ptrM L (.string (idC r.c))).getD (.pointer none)) = .pointer none:=by
      show ((findE L (idC r.c)).map pv).getD _ = _
      rw [hf]; rfl
     rw [lv] at lk
     have TK:Hid (entS ms (l.take (k + 1)) = L.map (·.1) ++ [newS r]):=Lib.hid (by rw [ST.out,S1.out,findE_no hf,if_neg (by decide)])
     have HF:=Lib.hid hf
     have k6u:=k6 u1 O1
     have OWA:Hid (∀ o,(u1.alloc o).ownsRow V.heap.size 98 1 u6 L.length (L.map pv)):=Lib.hid (fun o=>own_below E1.out.own ((Below.refl _ _).alloc (Nat.le_refl _) _) (Nat.le_refl _))
     have bzu:=E1.out.bel.size
     have RW:Hid ((#[.slice A1 r.edits.length c1,.string (mkB (idC r.c)),.int .i64 1,.string ⟨#[]⟩,.slice A1 r.edits.length c1]:Array Value) = enRow (newS r)):=Lib.hid (by unfold enRow newS; dsimp only; rw [V1.out]; rfl)
     have lk1:=LK.out
     have NK:=Lib.hid E1.out.nk
     have KSH:=Lib.hid KS
     clear hf lv KS k0 k1 k6 k7 ST S1
     go_wp2_with (at_builtin; refine wpList_appNG rfl (.tmp 41) (.tmp 43) 94 rfl Tryz.underlying94 info_ptr rfl (by decide) V.heap.size _ L.length (L.map pv) _ 1 (by decide) rfl (by intro y hy; simp at hy; rw [hy]; rfl) rfl rfl (by simp) (OWA.out _) (by simp; omega) (by omega) (by omega) ?_; intro g7 c7 w7 ho7 hg7 hl7 hb7; obtain ⟨w8,hup,hm8,hg8⟩:=(E1.out.map7 hg7).upd strK Tryz.underlying95 (by have:=NK.out; unfold maxLen; omega) KSH.out (.pointer (some ⟨u1.heap.size,0,none⟩)); rw [RW.out] at hg7)
     refine ⟨⟨k + 1,by omega,by go_num,⟨_,rfl⟩,⟨_,rfl⟩,⟨_,rfl⟩,⟨_,rfl⟩,Lib.hid ⟨L ++ [(newS r,u1.heap.size)],_,EnI.add E1.out (newS r) HF.out ho7 hg7 hm8 hg8 ?_,?_⟩⟩,by simp [intOf]; omega⟩
     ·have:=NK.out; split <;> omega
     ·rw [TK.out,List.map_append]; rfl
   ·have g1:(r.kind == 1) = false:=by simpa using h1
    have h1H:=Lib.hid h1
    have k0X:=k0 X SW
    clear h1
    by_cases h3:r.kind = 3
    ·have g3:(r.kind == 3) = true:=by rw [h3]; rfl
     have S3:Hid (stepS ms (L.map (·.1)) r = if inI ms r.author then (L.map (·.1)).map (obeyS r) else L.map (·.1)):=Lib.hid (by unfold stepS; rw [if_neg h1H.out,if_pos h3])
     clear h3 h1H
     have KS:=key_str r.target HR.out.2.target
     have lk:=EX.out.mp.look strK Tryz.underlying95 (zPtr X) KS
     have k7X:=k7 X SW
     cases hf:findE L r.target with
     | none =>
      have lv:((ptrM L (.string r.target)).getD (.pointer none)) = .pointer none:=by
       show ((findE L r.target).map pv).getD _ = _
       rw [hf]; rfl
      rw [lv] at lk
      have TK:Hid (entS ms (l.take (k + 1)) = L.map (·.1)):=Lib.hid (by rw [ST.out,S3.out,map_self (findE_no hf)]; split <;> rfl)
      clear hf lv KS k0 k1 k6 k7 ST S3 IDC
      go_wp2_with (first
     | (refine wpList_load_mid rfl 56 (.tmp 18) rfl b (off + k * 21) rfl (rvL r) _ HC.out Tryz.underlying56 rfl (mrec_szL r) ?_)
     | (refine wpList_store_mid rfl 56 (.tmp 9) (.tmp 19) rfl wr.heap.size 0 (rvL r).toArray rfl rfl (there_of_row (heap_alloc_new wr _) (Nat.le_refl 21)) (mrec_szA r) ONE.out ?_; rw [List.toList_toArray,FS.out _ rfl,← X0.out,X1.out])
     | (refine wpList_load_mid rfl 56 (.tmp 9) rfl bx 0 rfl (rvL r) _ (RX.out X SW) Tryz.underlying56 rfl (mrec_szL r) ?_))
      exact ⟨⟨k + 1,by omega,by go_num,⟨_,rfl⟩,⟨_,rfl⟩,⟨_,rfl⟩,⟨_,rfl⟩,Lib.hid ⟨L,nk,EX.out,TK.out.symm⟩⟩,by simp [intOf]; omega⟩
     | some q =>
      have lv:((ptrM L (.string r.target)).getD (.pointer none)) = .pointer (some ⟨q.2,0,none⟩):=by
       show ((findE L r.target).map pv).getD _ = _
       rw [hf]; rfl
      rw [lv] at lk
      have HF:=Lib.hid hf
      have k1X:=k1 X SW
      have CX:=Lib.hid (CT.out r.author X VX)
      have MVX:=MV X VX
      have MVH:=Lib.hid MV
      clear hf lv KS k0 k1 k6 k7 IDC MV
      go_wp2_with (first
     | (refine wpList_load_mid rfl 56 (.tmp 18) rfl b (off + k * 21) rfl (rvL r) _ HC.out Tryz.underlying56 rfl (mrec_szL r) ?_)
     | (refine wpList_store_mid rfl 56 (.tmp 9) (.tmp 19) rfl wr.heap.size 0 (rvL r).toArray rfl rfl (there_of_row (heap_alloc_new wr _) (Nat.le_refl 21)) (mrec_szA r) ONE.out ?_; rw [List.toList_toArray,FS.out _ rfl,← X0.out,X1.out])
     | (refine wpList_load_mid rfl 56 (.tmp 9) rfl bx 0 rfl (rvL r) _ (RX.out X SW) Tryz.underlying56 rfl (mrec_szL r) ?_))
      (with_reducible refine CX.out.mono ?_)
      rintro e u1 ⟨rfl,b1⟩
      have O1:OldB X u1:=b1
      have E1:=Lib.hid (EX.out.call b1)
      clear b1 EX CX k0X k7X k1X lk MVX X0 X1 FS
      cases hi:inI ms r.author
      ·have TK:Hid (entS ms (l.take (k + 1)) = L.map (·.1)):=Lib.hid (by rw [ST.out,S3.out,hi]; rfl)
       clear hi ST S3
       go_wp2_with fail
       exact ⟨⟨k + 1,by omega,by go_num,⟨_,rfl⟩,⟨_,rfl⟩,⟨_,rfl⟩,⟨_,rfl⟩,Lib.hid ⟨L,nk,E1.out,TK.out.symm⟩⟩,by simp [intOf]; omega⟩
      ·have TK:Hid (entS ms (l.take (k + 1)) = (L.map (·.1)).map (obeyS r)):=Lib.hid (by rw [ST.out,S3.out,hi]; rfl)
       have OB:=Lib.hid (obey_any V q.2 q.1 r u1 E1.out.bel (E1.out.big q (findE_yes HF.out).1) (E1.out.box q (findE_yes HF.out).1) (HV.out.is r HRM.out) HR.out.2 TV.out (OWN.out q (findE_yes HF.out).1))
       unfold rvA at OB
       clear hi ST S3
       go_wp2_with (refine wpList_load_mid rfl 56 (.tmp 9) rfl bx 0 rfl (rvL r) _ (RX.out u1 O1) Tryz.underlying56 rfl (mrec_szL r) ?_)
       (with_reducible refine OB.out.mono ?_)
       rintro e u2 ⟨rfl,EP⟩
       have E2:=Lib.hid (E1.out.obey HF.out EP)
       clear EP OB E1
       go_wp2_with fail
       refine ⟨⟨k + 1,by omega,by go_num,⟨_,rfl⟩,⟨_,rfl⟩,⟨_,rfl⟩,⟨_,rfl⟩,Lib.hid ⟨_,nk,E2.out,?_⟩⟩,by simp [intOf]; omega⟩
       rw [TK.out,List.map_map,List.map_map]; rfl
    ·have g3:(r.kind == 3) = false:=by simpa using h3
     have TK:Hid (entS ms (l.take (k + 1)) = L.map (·.1)):=Lib.hid (by rw [ST.out]; unfold stepS; rw [if_neg h1H.out,if_neg h3])
     clear h3 h1H k0 k1 k6 k7 ST IDC
     go_wp2_with (first
     | (refine wpList_load_mid rfl 56 (.tmp 18) rfl b (off + k * 21) rfl (rvL r) _ HC.out Tryz.underlying56 rfl (mrec_szL r) ?_)
     | (refine wpList_store_mid rfl 56 (.tmp 9) (.tmp 19) rfl wr.heap.size 0 (rvL r).toArray rfl rfl (there_of_row (heap_alloc_new wr _) (Nat.le_refl 21)) (mrec_szA r) ONE.out ?_; rw [List.toList_toArray,FS.out _ rfl,← X0.out,X1.out])
     | (refine wpList_load_mid rfl 56 (.tmp 9) rfl bx 0 rfl (rvL r) _ (RX.out X SW) Tryz.underlying56 rfl (mrec_szL r) ?_))
     exact ⟨⟨k + 1,by omega,by go_num,⟨_,rfl⟩,⟨_,rfl⟩,⟨_,rfl⟩,⟨_,rfl⟩,Lib.hid ⟨L,nk,EX.out,TK.out.symm⟩⟩,by simp [intOf]; omega⟩
  ·have d1:¬ (k:Int) < (n:Int):=by omega
   have TT:Hid (l.take k = l):=Lib.hid (List.take_of_length_le (by rw [← HN.out]; omega))
   rw [TT.out] at ER
   go_wp2_with fail
   go_ret2
   obtain ⟨L,nk,EI,EL⟩:=ER.out
   exact ⟨_,bm,rfl,L,⟨nk,FB.out _ _ _ _ EI⟩,EL⟩
end Go.Proofs.YtniklmikdkjgiaaGreatDoor
namespace Go.Proofs.YtniklmikdkjgiaaGreatDoor
open Go.RowKit Go.Maps Go.ChangeMaps Go.MapKept Go.WideShapes Go.WideMaps
def stL (e:Sx):List Value:=[.string (mkB e.id),.int .i64 e.st,.string (mkB e.by_),e.cur.edv]
def stsL (l:List Sx):List Value:=l.flatMap stL
theorem stsL_app (l m:List Sx):stsL (l ++ m) = stsL l ++ stsL m:=List.flatMap_append ..
theorem stsL_one (e:Sx):stsL [e] = stL e:=by simp [stsL]
theorem info_st:(Tryz.prog.info? 42).map (fun i=>(i.zero,i.size,i.bytes)) = some (some (.agg #[.string ⟨#[]⟩,.int .i64 0,.string ⟨#[]⟩,.slice none 0 0]),4,64):=by kernel_rfl
theorem mwo_szL (x:WoV):(Tryz.prog.info? 38).map (·.size) = some (woL x).length:=by kernel_rfl
theorem ptrs_at {w:World} {A:Option Addr} {L:List (Sx × Nat)} (h:Rd w A (L.map pv)) {k:Nat} (hk:k < L.length):∃ b off,A = some ⟨b,off,none⟩ ∧ b < w.heap.size ∧ w.cell? ⟨b,off + k,none⟩ = some (.pointer (some ⟨L[k].2,0,none⟩)):=by
 obtain ⟨b,off,e,hb,hc⟩:=h (by simpa using Nat.lt_of_le_of_lt (Nat.zero_le _) hk)
 exact ⟨b,off,e,hb,hc k _ (by rw [List.getElem?_map,List.getElem?_eq_getElem hk]; rfl)⟩
theorem en_st {w:World} {p:Nat} {e:Sx} (h:w.heap[p]? = some (.cells (enRow e) 100 (0,0))):w.rangeAt p 1 (stL e):=fun j v hj=>by
 match j,hj with
 | 0,hj=>exact load_block (i:=1) h hj
 | 1,hj=>exact load_block (i:=2) h hj
 | 2,hj=>exact load_block (i:=3) h hj
 | 3,hj=>exact load_block (i:=4) h hj
theorem rd_rows {w:World} {A:Option Addr} {α:Type} {f:α → List Value} {l:List α} (m:Nat) (hm:0 < m) (hf:∀ a,(f a).length = m) (h:Rd w A (l.flatMap f)) {k:Nat} (hk:k < l.length):∃ b off,A = some ⟨b,off,none⟩ ∧ b < w.heap.size ∧ w.rangeAt b (off + k * m) (f l[k]):=by
 obtain ⟨b,off,e,hb,hc⟩:=h (by rw [flat_len f m hf]; exact Nat.mul_pos (Nat.lt_of_le_of_lt (Nat.zero_le _) hk) hm)
 refine ⟨b,off,e,hb,fun j v hj=>?_⟩
 have:=hc (k * m + j) v (flat_get f m hf hk hj)
 rwa [← Nat.add_assoc] at this
theorem status_any (A:Option Addr) (n c:Nat) (l:List RV) (x:WoV) (w:World) (hn:n = l.length) (h:Rs w A l) (hx:WoIs w x) (hm:x.mods.length ≤ 1000000) (ht:Tab w) :
  Calls Tryz.prog 32 #[.slice A n c,woA x] w fun e w'=>∃ v,e = .returned v ∧ w'.ownsRow w.heap.size 42 4 v (entS x.mods l).length (stsL (entS x.mods l)) ∧ Below w.heap.size w w':=by
 have hl:n ≤ 100000:=by rw [hn]; exact h.len
 obtain ⟨V,hV⟩:∃ V,V = w.alloc (.cells (woL x).toArray 38):=⟨_,rfl⟩
 obtain ⟨bw,hbw⟩:∃ bw,w.heap.size = bw:=⟨_,rfl⟩
 have BV:Below w.heap.size w V:=by rw [hV]; exact (Below.refl _ _).alloc (Nat.le_refl _) _
 have RV0:V.rangeAt bw 0 (woL x):=by have:=range_of_row (show V.heap[bw]? = some (.cells (woL x).toArray 38 (0,0)) by rw [hV,← hbw]; exact heap_alloc_new w _); simpa using this
 have EC:=entries_any A n c l x V hn (h.below BV) (hx.below BV) hm (ht.keep BV)
 have LE:(entS x.mods l).length ≤ n:=by rw [hn]; exact entS_len _ _
 have FR:Hid (∀ e ∈ entS x.mods l,∃ A c,e.cur.edv = .slice A e.cur.edits.length c):=Lib.hid (fun e he=>by
  obtain ⟨A,c,e1,-⟩:=(h.is _ (entS_from _ _ e he).cur).ed
  exact ⟨A,c,e1⟩)
 have SZ:=mwo_szL x
 unfold woA at EC ⊢
 generalize entS x.mods l = es at *
 generalize woL x = xw at *
 have X0:=Lib.hid hV
 have X1:=Lib.hid hbw
 have ECH:=Lib.hid EC
 have R0:=Lib.hid RV0
 have BVH:=Lib.hid BV
 have SZH:=Lib.hid SZ
 clear h hx hm ht hV hbw EC RV0 BV hn SZ
 go_enter Tryz.func32, Tryz.ntmps32
 go_upto_region 1 with fail
 rw [← X0.out,X1.out]
 clear X0
 go_wp2_with (refine wpList_load_mid rfl 38 (.tmp 3) rfl bw 0 rfl xw _ R0.out Tryz.underlying38 rfl SZH.out ?_)
 (with_reducible refine ECH.out.mono ?_)
 rintro e u1 ⟨v,bm,L,nk,rfl,EI,EL⟩
 obtain ⟨A1,c1,rfl,hR,-⟩:=own_slG EI.own
 obtain ⟨m,hm⟩:∃ m,L.length = m:=⟨_,rfl⟩
 have HM:=Lib.hid hm
 have EM:Hid (es.length = m):=Lib.hid (by rw [← EL,List.length_map,hm])
 rw [hm]
 have I1:=Lib.hid EI
 have ELH:=Lib.hid EL
 have RH:=Lib.hid hR
 have B1:Hid (Below w.heap.size w u1):=Lib.hid (BVH.out.trans (EI.bel.mono BVH.out.size))
 have S0:Hid (u1.ownsRow u1.heap.size 42 4 (.slice none 0 0) 0 (stsL (es.take 0))):=Lib.hid (World.ownsRow_nil _ _ _ _)
 have hmn:m ≤ n:=by rw [← EM.out]; exact LE
 clear EI EL hR ECH R0 SZH hm LE BVH
 go_wp2_with fail
 go_loopw [7,9,18] (fun s7 s9 s18 wr=>∃ k:Nat,k ≤ m ∧ s18 = .int .i64 (k:Int) ∧ (∃ p,s9 = p) ∧ Hid (wr.ownsRow u1.heap.size 42 4 s7 k (stsL (es.take k))) ∧ Hid (OldB u1 wr)) (fun _ _ i _=>m - (intOf i).toNat)
 case atStart=>exact ⟨0,Nat.zero_le _,rfl,⟨_,rfl⟩,S0,Lib.hid (Below.refl _ _)⟩
 case round =>
  clear S0
  obtain ⟨k,hk,rfl,⟨p9,rfl⟩,OW,OH⟩:=hrel
  by_cases hlt:k < m
  ·have hkL:k < L.length:=by rw [HM.out]; exact hlt
   have hke:k < es.length:=by rw [EM.out]; exact hlt
   have d1:(k:Int) < (m:Int):=by omega
   have d2:(0:Int) ≤ (k:Int):=by omega
   have EK:=I1.out.call OH.out
   obtain ⟨b,off,rfl,-,ck⟩:=ptrs_at (RH.out.below OH.out) hkL
   have bk:=en_st (EK.box L[k] (List.getElem_mem hkL))
   have ee:L[k].1 = es[k]:=by simp [← ELH.out]
   rw [ee] at bk
   obtain ⟨A4,c4,e4⟩:=FR.out es[k] (List.getElem_mem hke)
   have TK:Hid (stsL (es.take (k + 1)) = stsL (es.take k) ++ [.string (mkB es[k].id),.int .i64 es[k].st,.string (mkB es[k].by_),.slice A4 es[k].cur.edits.length c4]):=Lib.hid (by rw [List.take_succ_eq_append_getElem hke,stsL_app,stsL_one]; unfold stL; rw [e4])
   generalize L[k].2 = p at *
   generalize es[k] = e at *
   have q0:wr.cell? ⟨p,1,none⟩ = some (.string (mkB e.id)):=bk 0 _ rfl
   have q1:wr.cell? ⟨p,2,none⟩ = some (.int .i64 e.st):=bk 1 _ rfl
   have q2:wr.cell? ⟨p,3,none⟩ = some (.string (mkB e.by_)):=bk 2 _ rfl
   have q3:wr.cell? ⟨p,4,none⟩ = some (.slice A4 e.cur.edits.length c4):=(bk 3 _ rfl).trans (by rw [e4])
   have bz:u1.heap.size ≤ wr.heap.size:=Below.size OH.out
   clear bk ee e4 EK
   go_wp2_with (at_builtin; refine wpList_appNG rfl (.tmp 22) (.tmp 27) 46 rfl Tryz.underlying46 info_st rfl (by decide) u1.heap.size _ k (stsL (es.take k)) _ 1 (by decide) rfl (by intro y hy; simp at hy; rcases hy with rfl | rfl | rfl | rfl <;> rfl) rfl rfl rfl OW.out bz (by omega) (by omega) ?_; intro g7 c7 w7 ho7 hg7 hl7 hb7)
   refine ⟨⟨k + 1,by omega,by go_num,⟨_,rfl⟩,?_,Lib.hid (OH.out.trans hb7)⟩,by simp [intOf]; omega⟩
   rw [TK.out]; exact Lib.hid ho7
  ·have d1:¬ (k:Int) < (m:Int):=by omega
   have TT:Hid (es.take k = es):=Lib.hid (List.take_of_length_le (by rw [EM.out]; omega))
   have KM:Hid (k = es.length):=Lib.hid (by rw [EM.out]; omega)
   rw [TT.out,KM.out] at OW
   go_wp2_with fail
   go_ret
   exact ⟨_,rfl,own_baseG B1.out.size OW.out,B1.out.trans (Below.mono OH.out B1.out.size)⟩
theorem results_cellT {P:Program} {w:World} {fn:Func} {i j:Nat} {t:TypeId} {ad:Addr} {tmps:Array Value} {v u:Value} (h:fn.results = #[.cell i t,.tmp j]) (hp:tmps.getD i undef = .pointer (some ad)) (hl:(loadVar t ad).run P w = .ok v w) (hu:tmps.getD j undef = u):(results fn tmps).run P w = .ok (.tuple #[v,u]) w:=by
 have hp2:tmps[i]?.getD undef = .pointer (some ad):=by simpa using hp
 have hu2:tmps[j]?.getD undef = u:=by simpa using hu
 unfold results
 rw [h]
 simp [Array.mapM_eq_mapM_toList,hp2,hu2,asAddr,Sem.run_bind,hl]
def ofS (es:List Sx) (t:Tx):Option Sx:=es.find? fun e=>decide (e.id = t)
def ofV (o:Option Sx):Array Value:=match o with
 | some e=>(stL e).toArray
 | none=>#[.string ⟨#[]⟩,.int .i64 0,.string ⟨#[]⟩,.slice none 0 0]
theorem ofS_find (t:Tx):∀ L:List (Sx × Nat),ofS (L.map (·.1)) t = (findE L t).map (·.1)
 | []=>rfl
 | q :: L=>by
  have ih:=ofS_find t L
  unfold ofS findE at ih ⊢
  rw [List.map_cons,List.find?_cons,List.find?_cons]
  split
  ·rfl
  ·exact ih
theorem ofS_has (es:List Sx) (t:Tx):(ofS es t).isSome = hasS es t:=by
 unfold ofS hasS
 apply bool_iff
 rw [List.find?_isSome]
 simp
theorem of_any (A:Option Addr) (n c:Nat) (l:List RV) (x:WoV) (t:Tx) (w:World) (hn:n = l.length) (h:Rs w A l) (hx:WoIs w x) (hm:x.mods.length ≤ 1000000) (htl:t.length ≤ 1000000) (ht:Tab w) :
  Calls Tryz.prog 29 #[.slice A n c,woA x,.string (mkB t)] w fun e w'=>e = .returned (.tuple #[.agg (ofV (ofS (entS x.mods l) t)),.bool (hasS (entS x.mods l) t)]) ∧ Below w.heap.size w w':=by
 obtain ⟨V,hV⟩:∃ V,V = (w.alloc (.cells (woL x).toArray 38)).alloc (.cells #[.string ⟨#[]⟩,.int .i64 0,.string ⟨#[]⟩,.slice none 0 0] 42):=⟨_,rfl⟩
 obtain ⟨bw,hbw⟩:∃ bw,w.heap.size = bw:=⟨_,rfl⟩
 obtain ⟨bs,hbs⟩:∃ bs,w.heap.size + 1 = bs:=⟨_,rfl⟩
 have BV:Below w.heap.size w V:=by rw [hV]; exact ((Below.refl _ _).alloc (Nat.le_refl _) _).alloc (by simp) _
 have RV0:V.rangeAt bw 0 (woL x):=by have:=range_of_row (show V.heap[bw]? = some (.cells (woL x).toArray 38 (0,0)) by rw [hV,← hbw]; exact (alloc_old _ _ (by simp)).trans (heap_alloc_new w _)); simpa using this
 have XS:V.heap[bs]? = some (.cells #[.string ⟨#[]⟩,.int .i64 0,.string ⟨#[]⟩,.slice none 0 0] 42 (0,0)):=by rw [hV,← hbs]; exact alloc_new' _ _ _ (by simp)
 have EC:=entries_any A n c l x V hn (h.below BV) (hx.below BV) hm (ht.keep BV)
 have FR:Hid (∀ e ∈ entS x.mods l,∃ A c,e.cur.edv = .slice A e.cur.edits.length c):=Lib.hid (fun e he=>by
  obtain ⟨A,c,e1,-⟩:=(h.is _ (entS_from _ _ e he).cur).ed
  exact ⟨A,c,e1⟩)
 have SZ:=mwo_szL x
 unfold woA at EC ⊢
 have hbs2:w.heap.size ≤ bs:=by omega
 generalize entS x.mods l = es at *
 generalize woL x = xw at *
 have X0:=Lib.hid hV
 have X1:=Lib.hid hbw
 have X2:=Lib.hid hbs
 have ECH:=Lib.hid EC
 have R0:=Lib.hid RV0
 have XSH:=Lib.hid XS
 have BVH:=Lib.hid BV
 have SZH:=Lib.hid SZ
 have HB2:=Lib.hid hbs2
 clear h hx hm ht hV hbw hbs EC RV0 XS BV hn SZ hbs2
 go_enter Tryz.func29, Tryz.ntmps29
 go_upto_region 1 with fail
 rw [← X0.out,X2.out,X1.out]
 clear X0
 go_wp2_with (refine wpList_load_mid rfl 38 (.tmp 4) rfl bw 0 rfl xw _ R0.out Tryz.underlying38 rfl SZH.out ?_)
 (with_reducible refine ECH.out.mono ?_)
 rintro e u1 ⟨v,bm,L,nk,rfl,EI,EL⟩
 have KS:=key_str t htl
 have lk:=EI.mp.look strK Tryz.underlying95 (zPtr u1) KS
 have XS1:=(EI.bel.block bs (lt_of_block XSH.out)).trans XSH.out
 have B1:Below w.heap.size w u1:=BVH.out.trans (EI.bel.mono BVH.out.size)
 have PO:Hid (ofS es t = (findE L t).map (·.1)):=Lib.hid (by rw [← EL]; exact ofS_find t L)
 cases hf:findE L t with
 | none =>
  have lv:((ptrM L (.string t)).getD (.pointer none)) = .pointer none:=by
   show ((findE L t).map pv).getD _ = _
   rw [hf]; rfl
  rw [lv] at lk
  have PV:Hid (ofV (ofS es t) = #[.string ⟨#[]⟩,.int .i64 0,.string ⟨#[]⟩,.slice none 0 0]):=Lib.hid (by rw [PO.out,hf]; rfl)
  have PB:Hid (hasS es t = false):=Lib.hid (by rw [← ofS_has,PO.out,hf]; rfl)
  have LV:=Lib.hid (run_loadVar_mid (P:=Tryz.prog) (u1.setCells bs 0 ((#[.string ⟨#[]⟩,.int .i64 0,.string ⟨#[]⟩,.slice none 0 0]:Array Value)).toList) bs 0 42 ((#[.string ⟨#[]⟩,.int .i64 0,.string ⟨#[]⟩,.slice none 0 0]:Array Value)).toList _ (range_setCells (cs:=#[.string ⟨#[]⟩,.int .i64 0,.string ⟨#[]⟩,.slice none 0 0]) XS1 rfl) Tryz.underlying42 rfl (by kernel_rfl))
  have BB:=Lib.hid (below_setCells (w':=u1) bs ((#[.string ⟨#[]⟩,.int .i64 0,.string ⟨#[]⟩,.slice none 0 0]:Array Value)).toList 0 u1 B1 HB2.out)
  have XH:=Lib.hid XS1
  have B1H:=Lib.hid B1
  clear lv KS hf EI EL XS1 B1 ECH XSH BVH R0
  go_wp2_with (refine wpList_store_mid rfl 42 (.tmp 6) (.tmp 26) rfl bs 0 #[.string ⟨#[]⟩,.int .i64 0,.string ⟨#[]⟩,.slice none 0 0] rfl rfl (there_of_row XH.out (Nat.le_refl 4)) (by kernel_rfl) (by simp [Value.oneCell']) ?_)
  exact bodyPost_ret (results_cellT (i:=6) (j:=7) (t:=42) rfl rfl LV.out rfl) rfl ⟨by rw [PV.out,PB.out]; rfl,BB.out⟩
 | some q =>
  have lv:((ptrM L (.string t)).getD (.pointer none)) = .pointer (some ⟨q.2,0,none⟩):=by
   show ((findE L t).map pv).getD _ = _
   rw [hf]; rfl
  rw [lv] at lk
  have qm:q.1 ∈ es:=by rw [← EL]; exact List.mem_map.2 ⟨q,(findE_yes hf).1,rfl⟩
  obtain ⟨A4,c4,e4⟩:=FR.out q.1 qm
  have PV:Hid (ofV (ofS es t) = #[.string (mkB q.1.id),.int .i64 q.1.st,.string (mkB q.1.by_),.slice A4 q.1.cur.edits.length c4]):=Lib.hid (by rw [PO.out,hf]; show (stL q.1).toArray = _; unfold stL; rw [e4])
  have PB:Hid (hasS es t = true):=Lib.hid (by rw [← ofS_has,PO.out,hf]; rfl)
  have bk:=en_st (EI.box q (findE_yes hf).1)
  have q0:u1.cell? ⟨q.2,1,none⟩ = some (.string (mkB q.1.id)):=bk 0 _ rfl
  have q1:u1.cell? ⟨q.2,2,none⟩ = some (.int .i64 q.1.st):=bk 1 _ rfl
  have q2:u1.cell? ⟨q.2,3,none⟩ = some (.string (mkB q.1.by_)):=bk 2 _ rfl
  have q3:u1.cell? ⟨q.2,4,none⟩ = some (.slice A4 q.1.cur.edits.length c4):=(bk 3 _ rfl).trans (by rw [e4])
  have LV:=Lib.hid (run_loadVar_mid (P:=Tryz.prog) (u1.setCells bs 0 ((#[.string (mkB q.1.id),.int .i64 q.1.st,.string (mkB q.1.by_),.slice A4 q.1.cur.edits.length c4]:Array Value)).toList) bs 0 42 ((#[.string (mkB q.1.id),.int .i64 q.1.st,.string (mkB q.1.by_),.slice A4 q.1.cur.edits.length c4]:Array Value)).toList _ (range_setCells (cs:=#[.string (mkB q.1.id),.int .i64 q.1.st,.string (mkB q.1.by_),.slice A4 q.1.cur.edits.length c4]) XS1 rfl) Tryz.underlying42 rfl (by kernel_rfl))
  have BB:=Lib.hid (below_setCells (w':=u1) bs ((#[.string (mkB q.1.id),.int .i64 q.1.st,.string (mkB q.1.by_),.slice A4 q.1.cur.edits.length c4]:Array Value)).toList 0 u1 B1 HB2.out)
  have XH:=Lib.hid XS1
  have B1H:=Lib.hid B1
  clear lv KS hf EI EL XS1 B1 ECH XSH BVH R0 qm bk e4
  go_wp2_with (refine wpList_store_mid rfl 42 (.tmp 6) (.tmp 25) rfl bs 0 #[.string (mkB q.1.id),.int .i64 q.1.st,.string (mkB q.1.by_),.slice A4 q.1.cur.edits.length c4] rfl rfl (there_of_row XH.out (Nat.le_refl 4)) (by kernel_rfl) (by simp [Value.oneCell']) ?_)
  exact bodyPost_ret (results_cellT (i:=6) (j:=7) (t:=42) rfl rfl LV.out rfl) rfl ⟨by rw [PV.out,PB.out]; rfl,BB.out⟩
end Go.Proofs.YtniklmikdkjgiaaGreatDoor
namespace Go.Proofs.YtniklmikdkjgiaaGreatDoor
open Go.RowKit
def EdIs (w:World) (r:RV):Prop:=∃ A c,r.edv = .slice A r.edits.length c ∧ Es w A r.edits
theorem EdIs.below {w w':World} {r:RV} (h:EdIs w r) (hb:Below w.heap.size w w'):EdIs w' r:=by
 obtain ⟨A,c,e,he⟩:=h; exact ⟨A,c,e,he.below hb⟩
theorem is29_any (x:WoV) (y:Int) (w:World) (hx:WoIs w x) (hm:x.mods.length ≤ 1000000) :
  Calls Tryz.prog 35 #[woA x,.int .i64 y] w fun e w'=>e = .returned (.bool (inI x.mods y)) ∧ Below w.heap.size w w':=by
 obtain ⟨A,c,e2,hr⟩:=hx.ms
 unfold woA
 obtain ⟨V,hV⟩:∃ V,V = w.alloc (.cells (woL x).toArray 38):=⟨_,rfl⟩
 obtain ⟨bw,hbw⟩:∃ bw,w.heap.size = bw:=⟨_,rfl⟩
 have BV:Below w.heap.size w V:=by rw [hV]; exact (Below.refl _ _).alloc (Nat.le_refl _) _
 have XV:V.heap[bw]? = some (.cells (woL x).toArray 38 (0,0)):=by rw [hV,← hbw]; exact heap_alloc_new w _
 have MV:V.cell? ⟨bw,2,none⟩ = some (.slice A x.mods.length c):=by
  have:=load_block (i:=2) XV rfl
  rw [← e2]; exact this
 have HI:=Lib.hid (hr.below BV)
 generalize x.mods = l at *
 obtain ⟨n,hn⟩:∃ n,l.length = n:=⟨_,rfl⟩
 rw [hn] at MV hm
 have HN:Hid (n = l.length):=Lib.hid hn.symm
 obtain ⟨R,hR⟩:∃ R,inI l y = R:=⟨_,rfl⟩
 have HR:Hid (R = inI (l.drop 0) y):=Lib.hid hR.symm
 rw [hR]
 generalize (woL x).toArray = xw at *
 have X0:=Lib.hid hV
 have X1:=Lib.hid hbw
 have BH:=Lib.hid BV
 clear hR hn hx hV hbw BV hr e2 XV
 go_enter Tryz.func35, Tryz.ntmps35
 go_upto_region 1 with fail
 rw [← X0.out,X1.out]
 clear X0 X1
 go_wp2_with fail
 go_loopw [5] (fun s5 wr=>∃ k:Nat,k ≤ n ∧ s5 = .int .i64 (k:Int) ∧ Hid (R = inI (l.drop k) y) ∧ wr = V) (fun i _=>n - (intOf i).toNat)
 case atStart=>exact ⟨0,Nat.zero_le _,rfl,HR,rfl⟩
 case round =>
  clear HR
  obtain ⟨k,hkn,rfl,HR,rfl⟩:=hrel
  by_cases hlt:k < n
  ·have hkl:k < l.length:=by rw [← HN.out]; exact hlt
   have d1:(k:Int) < (n:Int):=by omega
   have d2:(0:Int) ≤ (k:Int):=by omega
   obtain ⟨b,off,rfl,hb,c0⟩:=ints_at HI.out hkl
   have RK:Hid (R = ((l[k] == y) || inI (l.drop (k + 1)) y)):=Lib.hid (by rw [HR.out,List.drop_eq_getElem_cons hkl]; unfold inI; rw [List.any_cons])
   clear HR
   generalize l[k] = z at *
   by_cases he:z = y
   ·have e1:(z == y) = true:=by rw [he]; simp
    have RT:Hid (R = true):=Lib.hid (by rw [RK.out,e1,Bool.true_or])
    clear RK he
    go_wp2_with fail
    go_ret
    exact ⟨by rw [RT.out]; rfl,BH.out⟩
   ·have e1:(z == y) = false:=by simpa using he
    have R2:Hid (R = inI (l.drop (k + 1)) y):=Lib.hid (by rw [RK.out,e1,Bool.false_or])
    clear RK he
    go_wp2_with fail
    exact ⟨⟨k + 1,by omega,by go_num,R2,by first | rfl | trivial⟩,by simp [intOf]; omega⟩
  ·have d1:¬ (k:Int) < (n:Int):=by omega
   have RF:Hid (R = false):=Lib.hid (by rw [HR.out,List.drop_eq_nil_of_le (by rw [← HN.out]; omega)]; rfl)
   clear HR
   go_wp2_with fail
   go_ret
   exact ⟨by rw [RF.out]; rfl,BH.out⟩
theorem edits29_any (A B:Option Addr) (c d:Nat) (l m:List EV) (n1 n2:Nat) (w:World) (hn1:n1 = l.length) (hn2:n2 = m.length) (h:Es w A l) (h2:Es w B m) :
  Calls Tryz.prog 38 #[.slice A n1 c,.slice B n2 d] w fun e w'=>e = .returned (.bool (all2 (fun a b=>sameE a.c b.c) l m)) ∧ Below w.heap.size w w':=by
 have RE:=Lib.hid (redits_any A B c d l m n1 n2 w hn1 hn2 h h2)
 clear h h2 hn1 hn2
 generalize all2 (fun a b=>sameE a.c b.c) l m = q at *
 go_enter Tryz.func38, Tryz.ntmps38
 go_wp2_with fail
 (with_reducible refine RE.out.mono ?_)
 rintro e u1 ⟨rfl,b1⟩
 have B1:=Lib.hid b1
 clear b1 RE
 go_wp2_with fail
 go_ret
 exact ⟨rfl,B1.out⟩
theorem sameX_ev (a b:Sx):sameX a b = (decide (a.id = b.id) && decide (a.st = b.st) && decide (a.by_ = b.by_) && all2 (fun x y=>sameE x.c y.c) a.cur.edits b.cur.edits):=by
 unfold sameX edsC; rw [all2_map]
theorem same29_any (a b:Sx) (w:World) (ha:EdIs w a.cur) (hb:EdIs w b.cur) :
  Calls Tryz.prog 34 #[.agg (stL a).toArray,.agg (stL b).toArray] w fun e w'=>e = .returned (.bool (sameX a b)) ∧ Below w.heap.size w w':=by
 have SX:=Lib.hid (sameX_ev a b)
 obtain ⟨A1,c1,v1,h1⟩:=ha
 obtain ⟨A2,c2,v2,h2⟩:=hb
 unfold stL
 rw [v1,v2]
 have ER:Hid (∀ u,Below w.heap.size w u → Calls Tryz.prog 38 #[.slice A1 a.cur.edits.length c1,.slice A2 b.cur.edits.length c2] u fun e w'=>e = .returned (.bool (all2 (fun x y=>sameE x.c y.c) a.cur.edits b.cur.edits)) ∧ Below u.heap.size u w'):=Lib.hid (fun u hu=>edits29_any A1 A2 c1 c2 _ _ _ _ u rfl rfl (h1.below hu) (h2.below hu))
 have t1:=tx_beq a.id b.id
 have t2:=tx_beq a.by_ b.by_
 generalize all2 (fun x y=>sameE x.c y.c) a.cur.edits b.cur.edits = qe at *
 generalize a.cur.edits.length = n1 at *
 generalize b.cur.edits.length = n2 at *
 generalize sameX a b = R at *
 generalize decide (a.id = b.id) = q1 at *
 generalize decide (a.by_ = b.by_) = q3 at *
 generalize mkB a.id = ai at *
 generalize mkB b.id = bi at *
 generalize mkB a.by_ = ay at *
 generalize mkB b.by_ = by_ at *
 generalize a.st = azt at *
 generalize b.st = bs at *
 clear h1 h2 v1 v2
 obtain ⟨W,hW⟩:∃ W,W = (w.alloc (.cells #[.string ai,.int .i64 azt,.string ay,.slice A1 n1 c1] 42)).alloc (.cells #[.string bi,.int .i64 bs,.string by_,.slice A2 n2 c2] 42):=⟨_,rfl⟩
 have BW:Hid (Below w.heap.size w W):=Lib.hid (by rw [hW]; exact ((Below.refl _ _).alloc (Nat.le_refl _) _).alloc (by simp) _)
 have HX:W.heap[w.heap.size]? = some (.cells #[.string ai,.int .i64 azt,.string ay,.slice A1 n1 c1] 42 (0,0)):=by rw [hW]; exact (alloc_old _ _ (by simp)).trans (heap_alloc_new w _)
 have HY:W.heap[w.heap.size + 1]? = some (.cells #[.string bi,.int .i64 bs,.string by_,.slice A2 n2 c2] 42 (0,0)):=by rw [hW]; exact alloc_new' _ _ _ (by simp)
 have x0:=load_block (i:=0) HX rfl
 have x1:=load_block (i:=1) HX rfl
 have x2:=load_block (i:=2) HX rfl
 have x3:=load_block (i:=3) HX rfl
 have y0:=load_block (i:=0) HY rfl
 have y1:=load_block (i:=1) HY rfl
 have y2:=load_block (i:=2) HY rfl
 have y3:=load_block (i:=3) HY rfl
 have EW:=Lib.hid (ER.out W BW.out)
 have X0:=Lib.hid hW
 clear hW HX HY ER
 cases q1
 ·have PF:Hid (R = false):=Lib.hid (by rw [SX.out]; rfl)
  clear SX
  go_enter Tryz.func34, Tryz.ntmps34
  go_upto_region 1 with fail
  rw [← X0.out]
  go_wp2_with fail
  go_ret
  exact ⟨by rw [PF.out]; rfl,BW.out⟩
 by_cases hs:azt = bs
 case neg =>
  have es:(azt == bs) = false:=by simpa using hs
  have PF:Hid (R = false):=Lib.hid (by rw [SX.out,decide_eq_false hs]; rfl)
  clear SX hs
  go_enter Tryz.func34, Tryz.ntmps34
  go_upto_region 1 with fail
  rw [← X0.out]
  go_wp2_with fail
  go_ret
  exact ⟨by rw [PF.out]; rfl,BW.out⟩
 have es:(azt == bs) = true:=by rw [hs]; simp
 have SX:=Lib.hid (SX.out.trans (by rw [decide_eq_true hs,Bool.true_and]))
 clear hs
 cases q3
 ·have PF:Hid (R = false):=Lib.hid (by rw [SX.out]; rfl)
  clear SX
  go_enter Tryz.func34, Tryz.ntmps34
  go_upto_region 1 with fail
  rw [← X0.out]
  go_wp2_with fail
  go_ret
  exact ⟨by rw [PF.out]; rfl,BW.out⟩
 ·have PF:Hid (R = qe):=Lib.hid (by rw [SX.out]; simp)
  clear SX
  go_enter Tryz.func34, Tryz.ntmps34
  go_upto_region 1 with fail
  rw [← X0.out]
  go_wp2_with fail
  (with_reducible refine EW.out.mono ?_)
  rintro e u1 ⟨rfl,b1⟩
  have B1:=Lib.hid (BW.out.trans (b1.mono BW.out.size))
  clear b1 EW
  go_wp2_with fail
  go_ret
  exact ⟨by rw [PF.out]; rfl,B1.out⟩
theorem few29_any (A:Option Addr) (n c:Nat) (l:List RV) (x:WoV) (w:World) (hn:n = l.length) (h:Rw w A l) (hx:WoIs w x) :
  Calls Tryz.prog 28 #[.slice A n c,woA x] w fun e w'=>e = .returned (.bool (fewL (rcsC l) 20 && decide (x.mods.length ≤ 60))) ∧ Below w.heap.size w w':=by
 obtain ⟨A2,c2,e2,hr⟩:=hx.ms
 have ml:=hx.ml
 unfold woA
 obtain ⟨V,hV⟩:∃ V,V = w.alloc (.cells (woL x).toArray 38):=⟨_,rfl⟩
 obtain ⟨bw,hbw⟩:∃ bw,w.heap.size = bw:=⟨_,rfl⟩
 have BV:Below w.heap.size w V:=by rw [hV]; exact (Below.refl _ _).alloc (Nat.le_refl _) _
 have XV:V.heap[bw]? = some (.cells (woL x).toArray 38 (0,0)):=by rw [hV,← hbw]; exact heap_alloc_new w _
 have MV:∀ u,OldB V u → u.cell? ⟨bw,2,none⟩ = some (.slice A2 x.mods.length c2):=fun u hu=>by
  have:=load_block (i:=2) ((Below.block hu bw (lt_of_block XV)).trans XV) rfl
  rw [← e2]; exact this
 have FW0:=fewrs_any A n c l 20 V hn (by decide) (h.below BV)
 rw [show ((20:Nat):Int) = 20 from rfl] at FW0
 have FW:=Lib.hid FW0
 clear FW0
 generalize fewL (rcsC l) 20 = q at *
 generalize x.mods.length = m at *
 generalize (woL x).toArray = xw at *
 have X0:=Lib.hid hV
 have X1:=Lib.hid hbw
 have BH:=Lib.hid BV
 clear h hx hV hbw BV hr e2 XV hn
 go_enter Tryz.func28, Tryz.ntmps28
 go_upto_region 1 with fail
 rw [← X0.out,X1.out]
 clear X0 X1
 go_wp2_with fail
 (with_reducible refine FW.out.mono ?_)
 rintro e u1 ⟨rfl,b1⟩
 have B1:=Lib.hid (BH.out.trans (b1.mono BH.out.size))
 have mv:=MV u1 b1
 clear b1 FW MV BH
 cases q
 ·go_wp2_with fail
  go_ret
  exact ⟨rfl,B1.out⟩
 ·by_cases hm:m ≤ 60
  ·have e1:decide ((m:Int) ≤ 60) = true:=decide_eq_true (by omega)
   have e2:(true && decide (m ≤ 60)) = true:=by rw [decide_eq_true hm]; rfl
   have e3:(m:Int) ≤ 60:=by omega
   have E2:=Lib.hid e2
   clear hm e2
   go_wp2_with fail
   go_ret
   exact ⟨by rw [E2.out]; rfl,B1.out⟩
  ·have e1:decide ((m:Int) ≤ 60) = false:=decide_eq_false (by omega)
   have e2:(true && decide (m ≤ 60)) = false:=by rw [decide_eq_false hm]; rfl
   have E2:=Lib.hid e2
   clear hm e2
   go_wp2_with fail
   go_ret
   exact ⟨by rw [E2.out]; rfl,B1.out⟩
end Go.Proofs.YtniklmikdkjgiaaGreatDoor
namespace Go.Proofs.YtniklmikdkjgiaaGreatDoor
open Go.RowKit
def dropE (t:Tx):EV:=⟨5,t,[],[],0,0,[],[],[],.slice none 0 0,zRO⟩
def chgR (t:Tx) (v:Value):RV:=⟨1,1,1,1,mainT,[],.slice none 0 0,[dropE t],v,[],false,0,[],zeroSl,[],[],[],.slice none 0 0,[],.slice none 0 0,zeroSl⟩
def ordR (a n k o:Int) (t:Tx) (l:List EV) (v:Value):RV:=⟨3,a,n,k,mainT,[],.slice none 0 0,l,v,t,false,o,[],zeroSl,[],[],[],.slice none 0 0,[],.slice none 0 0,zeroSl⟩
theorem dropE_is (t:Tx) (w:World):EvIs w (dropE t):=⟨sl_nil w,⟨sl_nil w,⟨none,0,rfl,Rd.nil_ _ _⟩⟩⟩
theorem drop_es {w:World} {g:Nat} {t:Tx} (h:w.heap[g]? = some (.cells (evL (dropE t)).toArray 93 (0,0))) (ht:t.length ≤ 1000000):Es w (some ⟨g,0,none⟩) [dropE t]:=by
 refine ⟨?_,?_,?_,?_,by show 1 ≤ 100000; decide⟩
 ·have e:evsL [dropE t] = evL (dropE t):=by simp [evsL]
  rw [e]
  exact Rd.of_row h (by simp)
 ·intro e he; rw [List.mem_singleton.1 he]; exact dropE_is t w
 ·intro e he; rw [List.mem_singleton.1 he]
  exact ⟨ht,Nat.zero_le _,Nat.zero_le _,Nat.zero_le _,Nat.zero_le _,Nat.zero_le _,(fun _ h=>by cases h),⟨Nat.zero_le _,Nat.zero_le _,(fun _ h=>by cases h),Nat.zero_le _,(fun _ h=>by cases h)⟩,Nat.zero_le _⟩
 ·intro e he; rw [List.mem_singleton.1 he]
  exact ⟨fun A n c h=>by injection h with _ h1 h2; omega,fun A n c h=>by injection h with _ h1 h2; omega⟩
theorem mod_is {w:World} {k a n c o:Int} {t:Tx} {l:List EV} {v:Value} (h:∃ A c,v = .slice A l.length c ∧ Es w A l):RvIs w ⟨k,a,n,c,mainT,[],.slice none 0 0,l,v,t,false,o,[],zeroSl,[],[],[],.slice none 0 0,[],.slice none 0 0,zeroSl⟩ :=
 ⟨sl_nil w,h,zeroSl_is w,sl_nil w,sl_nil w,zeroSl_is w⟩
theorem mod_sz {k a n c o:Int} {t:Tx} {l:List EV} {v:Value} (ht:t.length ≤ 1000000):RcSz (RV.c ⟨k,a,n,c,mainT,[],.slice none 0 0,l,v,t,false,o,[],zeroSl,[],[],[],.slice none 0 0,[],.slice none 0 0,zeroSl⟩) :=
 ⟨Nat.le_of_ble_eq_true rfl,ht,Nat.zero_le _,Nat.zero_le _,Nat.zero_le _,Nat.zero_le _,(fun _ h=>by cases h),Nat.zero_le _,(fun _ h=>by cases h),Nat.zero_le _,zeroSe_sz,zeroSe_sz⟩
theorem But.setCellsG {X:Nat → Prop} {a:World} {g:Nat} (hg:X g):∀ (vs:List Value) (o:Nat) (b:World),But X a b → But X a (b.setCells g o vs)
 | [],_,_,h=>h
 | v :: vs,o,b,h=>But.setCellsG hg vs (o + 1) _ (But.set (p:=⟨g,o,none⟩) h hg v)
theorem change_any (t:Tx) (w:World) :
  Calls Tryz.prog 62 #[.string (mkB t)] w fun e w'=>∃ g,e = .returned (.agg (rvL (chgR t (.slice (some ⟨g,0,none⟩) 1 1))).toArray) ∧ w.heap.size ≤ g ∧ w'.heap[g]? = some (.cells (evL (dropE t)).toArray 93 (0,0)) ∧ Below w.heap.size w w':=by
 obtain ⟨g,hg⟩:∃ g,w.heap.size + 1 = g:=⟨_,rfl⟩
 obtain ⟨cs,hcs⟩:∃ cs,cs = rvL (chgR t (.slice (some ⟨g,0,none⟩) 1 1)):=⟨_,rfl⟩
 have ONE:cs.toArray.all (·.oneCell') = true:=by rw [hcs]; simp [rvL,chgR,zeroSl,Value.oneCell']
 have ZA:(Tryz.prog.info? 56).map (·.size) = some cs.toArray.size:=by rw [hcs]; kernel_rfl
 have ZL:(Tryz.prog.info? 56).map (·.size) = some cs.length:=by rw [hcs]; kernel_rfl
 have NA:cs.toArray.size ≤ 21:=by rw [hcs]; exact Nat.le_refl 21
 have NL:cs.length = 21:=by rw [hcs]; rfl
 obtain ⟨W,hW⟩:∃ W,W = (w.alloc (.cells #[.int .i64 0,.int .i64 0,.int .i64 0,.int .i64 0,.string ⟨#[]⟩,.slice none 0 0,.slice none 0 0,.string ⟨#[]⟩,.bool false,.int .i64 0,.string ⟨#[]⟩,.int .i64 0,.slice none 0 0,.slice none 0 0,.string ⟨#[]⟩,.string ⟨#[]⟩,.slice none 0 0,.slice none 0 0,.int .i64 0,.slice none 0 0,.slice none 0 0] 56)).alloc (.cells #[.int .i64 5,.string (mkB t),.string ⟨#[]⟩,.string ⟨#[]⟩,.int .i64 0,.int .i64 0,.string ⟨#[]⟩,.string ⟨#[]⟩,.slice none 0 0,.string ⟨#[]⟩,.int .i64 0,.int .i64 0,.int .i64 0,.slice none 0 0,.slice none 0 0] 93):=⟨_,rfl⟩
 have XZ:W.heap[w.heap.size]? = some (.cells #[.int .i64 0,.int .i64 0,.int .i64 0,.int .i64 0,.string ⟨#[]⟩,.slice none 0 0,.slice none 0 0,.string ⟨#[]⟩,.bool false,.int .i64 0,.string ⟨#[]⟩,.int .i64 0,.slice none 0 0,.slice none 0 0,.string ⟨#[]⟩,.string ⟨#[]⟩,.slice none 0 0,.slice none 0 0,.int .i64 0,.slice none 0 0,.slice none 0 0] 56 (0,0)):=by rw [hW]; exact (alloc_old _ _ (by simp)).trans (heap_alloc_new w _)
 have XE:W.heap[g]? = some (.cells (evL (dropE t)).toArray 93 (0,0)):=by rw [hW,← hg]; exact alloc_new' _ _ _ (by simp)
 have BW:Below w.heap.size w W:=by rw [hW]; exact ((Below.refl _ _).alloc (Nat.le_refl _) _).alloc (by simp) _
 have RG:=range_setCells (cs:=cs.toArray) XZ (by rw [List.size_toArray,NL]; rfl)
 rw [List.toList_toArray] at RG
 have BB:Below w.heap.size w (W.setCells w.heap.size 0 cs):=below_setCells (w':=W) w.heap.size cs 0 W BW (Nat.le_refl _)
 have BE:(W.setCells w.heap.size 0 cs).heap[g]? = some (.cells (evL (dropE t)).toArray 93 (0,0)):=((But.setCellsG (X:=(· = w.heap.size)) rfl cs 0 W (But.refl _ _)).block g (lt_of_block XE) (by omega)).trans XE
 have LV:=run_loadVar_mid (P:=Tryz.prog) (W.setCells w.heap.size 0 cs) w.heap.size 0 56 cs _ RG Tryz.underlying56 rfl ZL
 have HC:=Lib.hid hcs
 have HG:=Lib.hid hg
 have HW:=Lib.hid hW
 have BBH:=Lib.hid BB
 have BEH:=Lib.hid BE
 have TH:=Lib.hid (there_of_row XZ (show cs.toArray.size ≤ 21 from NA))
 clear BB BE BW XE XZ RG hcs hg hW
 refine Calls.mono (R:=fun e w'=>e = .returned (.agg cs.toArray) ∧ w' = W.setCells w.heap.size 0 cs) ?_ (by
  rintro e w' ⟨rfl,rfl⟩
  exact ⟨g,by rw [HC.out],by have:=HG.out; omega,BEH.out,BBH.out⟩)
 go_enter Tryz.func62, Tryz.ntmps62
 go_wp2_with (rw [← HW.out]; refine wpList_store_mid rfl 56 (.tmp 2) (.tmp 6) rfl w.heap.size 0 cs.toArray rfl (by rw [HC.out,← HG.out]; rfl) TH.out ZA ONE ?_; rw [List.toList_toArray])
 exact bodyPost_ret (v:=.agg cs.toArray) (results_cell1 (i:=2) (t:=56) rfl rfl LV) rfl ⟨rfl,rfl⟩
theorem order_any (a n o:Int) (tr:RV) (l:List EV) (A:Option Addr) (c:Nat) (w:World) (hn:0 ≤ n ∧ n ≤ 100) (h:RvIs w tr) (hs:RcSz tr.c) (ht:Tab w) :
  Calls Tryz.prog 63 #[.int .i64 a,.int .i64 n,.int .i64 o,.agg (rvL tr).toArray,.slice A l.length c] w fun e w'=>e = .returned (.agg (rvL (ordR a n (1 + n) o (idC tr.c) l (.slice A l.length c))).toArray) ∧ Below w.heap.size w w':=by
 obtain ⟨cs,hcs⟩:∃ cs,cs = rvL (ordR a n (1 + n) o (idC tr.c) l (.slice A l.length c)):=⟨_,rfl⟩
 have ONE:cs.toArray.all (·.oneCell') = true:=by rw [hcs]; simp [rvL,ordR,zeroSl,Value.oneCell']
 have ZA:(Tryz.prog.info? 56).map (·.size) = some cs.toArray.size:=by rw [hcs]; kernel_rfl
 have ZL:(Tryz.prog.info? 56).map (·.size) = some cs.length:=by rw [hcs]; kernel_rfl
 have NA:cs.toArray.size ≤ 21:=by rw [hcs]; exact Nat.le_refl 21
 have NL:cs.length = 21:=by rw [hcs]; rfl
 obtain ⟨W,hW⟩:∃ W,W = (w.alloc (.cells (rvL tr).toArray 56)).alloc (.cells #[.int .i64 0,.int .i64 0,.int .i64 0,.int .i64 0,.string ⟨#[]⟩,.slice none 0 0,.slice none 0 0,.string ⟨#[]⟩,.bool false,.int .i64 0,.string ⟨#[]⟩,.int .i64 0,.slice none 0 0,.slice none 0 0,.string ⟨#[]⟩,.string ⟨#[]⟩,.slice none 0 0,.slice none 0 0,.int .i64 0,.slice none 0 0,.slice none 0 0] 56):=⟨_,rfl⟩
 obtain ⟨g,hg⟩:∃ g,w.heap.size + 1 = g:=⟨_,rfl⟩
 have XR:W.heap[w.heap.size]? = some (.cells (rvL tr).toArray 56 (0,0)):=by rw [hW]; exact (alloc_old _ _ (by simp)).trans (heap_alloc_new w _)
 have XZ:W.heap[g]? = some (.cells #[.int .i64 0,.int .i64 0,.int .i64 0,.int .i64 0,.string ⟨#[]⟩,.slice none 0 0,.slice none 0 0,.string ⟨#[]⟩,.bool false,.int .i64 0,.string ⟨#[]⟩,.int .i64 0,.slice none 0 0,.slice none 0 0,.string ⟨#[]⟩,.string ⟨#[]⟩,.slice none 0 0,.slice none 0 0,.int .i64 0,.slice none 0 0,.slice none 0 0] 56 (0,0)):=by rw [hW,← hg]; exact alloc_new' _ _ _ (by simp)
 have BW:Below w.heap.size w W:=by rw [hW]; exact ((Below.refl _ _).alloc (Nat.le_refl _) _).alloc (by simp) _
 have RX:Hid (W.rangeAt w.heap.size 0 (rvL tr)):=Lib.hid (by have:=range_of_row XR; simpa using this)
 have hg2:w.heap.size ≤ g:=by omega
 have IDC:Hid (Calls Tryz.prog 37 #[rvA tr] W fun e w'=>e = .returned (.string (mkB (idC tr.c))) ∧ Below W.heap.size W w'):=Lib.hid (id_any tr W (h.below BW) hs (ht.keep BW))
 unfold rvA at IDC
 have HC:=Lib.hid hcs
 have HG:=Lib.hid hg
 have HW:=Lib.hid hW
 have XZH:=Lib.hid XZ
 have BWH:=Lib.hid BW
 have HG2:=Lib.hid hg2
 have e1:IntKind.i64.wrap (1 + n) = 1 + n:=IntWalk.i64_in _ (by omega)
 have HN:=Lib.hid hn
 rw [← hcs]
 clear hcs hg hW h hs ht XR XZ BW hg2 hn
 go_enter Tryz.func63, Tryz.ntmps63
 go_upto_region 1 with fail
 rw [← HW.out]
 go_wp2_with (refine wpList_load_mid rfl 56 (.tmp 8) rfl w.heap.size 0 rfl (rvL tr) _ RX.out Tryz.underlying56 rfl (mrec_szL tr) ?_)
 (with_reducible refine IDC.out.mono ?_)
 rintro e u1 ⟨rfl,b1⟩
 have XU:=Lib.hid ((b1.block g (lt_of_block XZH.out)).trans XZH.out)
 have RG:=range_setCells (cs:=cs.toArray) XU.out (by rw [List.size_toArray,NL]; rfl)
 rw [List.toList_toArray] at RG
 have BB:=Lib.hid (below_setCells (w':=u1) g cs 0 u1 (BWH.out.trans (b1.mono BWH.out.size)) HG2.out)
 have LV:=Lib.hid (run_loadVar_mid (P:=Tryz.prog) (u1.setCells g 0 cs) g 0 56 cs _ RG Tryz.underlying56 rfl ZL)
 have TH:=Lib.hid (there_of_row XU.out (show cs.toArray.size ≤ 21 from NA))
 clear RG b1 IDC XU XZH BWH RX
 try rw [HG.out]
 go_wp2_with (refine wpList_store_mid rfl 56 (.tmp 10) (.tmp 19) rfl g 0 cs.toArray rfl (by rw [HC.out]; rfl) TH.out ZA ONE ?_; rw [List.toList_toArray])
 exact bodyPost_ret (v:=.agg cs.toArray) (results_cell1 (i:=10) (t:=56) rfl rfl LV.out) rfl ⟨rfl,BB.out⟩
end Go.Proofs.YtniklmikdkjgiaaGreatDoor
