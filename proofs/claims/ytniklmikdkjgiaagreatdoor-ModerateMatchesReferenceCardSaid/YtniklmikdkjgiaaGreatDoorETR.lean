import Derived.Test.YtniklmikdkjgiaaGreatDoorETL
import Derived.Test.YtniklmikdkjgiaaGreatDoorETP
set_option linter.all false
set_option maxHeartbeats 16000000
set_option maxRecDepth 100000
namespace Go.Proofs.YtniklmikdkjgiaaGreatDoor
open Go.RowKit Go.ChangeShapes Go.WideShapes Go.Deep
section
variable {H:Type} {enc:TypeId × Value → H} {w:World} {base:Nat} {held:Bool}
end
theorem OldB.then2 {W u w':World} (h:OldB W u) (k:Below W.heap.size u w'):OldB W w':=Below.trans h k
end Go.Proofs.YtniklmikdkjgiaaGreatDoor
namespace Go.Proofs.YtniklmikdkjgiaaGreatDoor
open Go.RowKit
def ordX (ms:List Int) (e:Sx) (r:RV):Sx:=if r.kind = 3 ∧ inI ms r.author = true then obeyS r e else e
def fstB (l:List RV) (i:Nat):Bool:=match l[i]? with | none=>false | some r=>decide (r.kind = 1) && !((l.take i).any fun x=>decide (x.kind = 1) && decide (idC x.c = idC r.c))
def setsT (l:List RV) (k:Nat):List Nat:=(List.range k).filter (fstB l)
theorem setsT_succ (l:List RV) (k:Nat):setsT l (k + 1) = setsT l k ++ if fstB l k then [k] else []:=by
 unfold setsT; rw [List.range_succ,List.filter_append]
 cases h:fstB l k <;> simp [h]
theorem setsT_lt {l:List RV} {k i:Nat} (h:i ∈ setsT l k):i < k:=List.mem_range.1 (List.mem_filter.1 h).1
theorem setsT_len (l:List RV) (k:Nat):(setsT l k).length ≤ k:=by
 have:=List.length_filter_le (fstB l) (List.range k)
 rw [List.length_range] at this; exact this
def seenB (l:List RV) (t:Tx):Bool:=l.any fun x=>decide (x.kind = 1) && decide (idC x.c = t)
theorem fstB_at {l:List RV} {k:Nat} (h:k < l.length):fstB l k = (decide (l[k].kind = 1) && !seenB (l.take k) (idC l[k].c)):=by
 unfold fstB; rw [List.getElem?_eq_getElem h]; rfl
theorem seen_take {l:List RV} {k:Nat} (h:k < l.length) (t:Tx):seenB (l.take (k + 1)) t = (seenB (l.take k) t || (decide (l[k].kind = 1) && decide (idC l[k].c = t))):=by
 unfold seenB; rw [List.take_succ_eq_append_getElem h,List.any_append]; simp
theorem hasS_map {es:List Sx} {f:Sx → Sx} (hf:∀ e,(f e).id = e.id) (t:Tx):hasS (es.map f) t = hasS es t:=by
 unfold hasS; rw [List.any_map]; congr 1; funext e; simp [hf]
theorem hasS_step (ms:List Int) (es:List Sx) (r:RV) (t:Tx):hasS (stepS ms es r) t = (hasS es t || (decide (r.kind = 1) && decide (idC r.c = t))):=by
 unfold stepS
 by_cases h1:r.kind = 1
 ·rw [if_pos h1,decide_eq_true h1,Bool.true_and]
  cases h:hasS es (idC r.c)
  ·rw [if_neg (by simp),hasS_app]; rfl
  ·rw [if_pos rfl]
   by_cases e:idC r.c = t
   ·subst e; rw [h]; rfl
   ·rw [decide_eq_false e,Bool.or_false]
 ·rw [if_neg h1,decide_eq_false h1,Bool.false_and,Bool.or_false]
  split
  ·split
   ·exact hasS_map (obeyS_id r) t
   ·rfl
  ·rfl
theorem seen_ent (ms:List Int) (l:List RV) (t:Tx):∀ k,k ≤ l.length → hasS (entS ms (l.take k)) t = seenB (l.take k) t
 | 0,_=>by rw [List.take_zero]; rfl
 | k + 1,h=>by rw [entS_take ms l (by omega),hasS_step,seen_ent ms l t k (by omega),seen_take (by omega)]
def statO (ms:List Int) (l:List RV) (k i:Nat):Option Sx:=l[i]?.map fun r=>((l.take k).drop (i + 1)).foldl (ordX ms) (newS r)
theorem statO_succ (ms:List Int) (l:List RV) {k i:Nat} (h:k < l.length) (hi:i < k):statO ms l (k + 1) i = (statO ms l k i).map fun e=>ordX ms e l[k]:=by
 unfold statO
 rw [Option.map_map]
 congr 1
 funext r
 rw [List.take_succ_eq_append_getElem h,List.drop_append_of_le_length (by rw [List.length_take]; omega),List.foldl_append]
 rfl
theorem statO_new (ms:List Int) (l:List RV) {k:Nat} (h:k < l.length):statO ms l (k + 1) k = some (newS l[k]):=by
 unfold statO
 rw [List.getElem?_eq_getElem h,List.drop_of_length_le (by rw [List.length_take]; omega)]
 rfl
theorem ent_sets (ms:List Int) (l:List RV):∀ k,k ≤ l.length → (entS ms (l.take k)).map some = (setsT l k).map (statO ms l k)
 | 0,_=>by rw [List.take_zero]; rfl
 | k + 1,h=>by
  have ih:=ent_sets ms l k (by omega)
  rw [entS_take ms l (by omega),setsT_succ,List.map_append]
  have M:(setsT l k).map (statO ms l (k + 1)) = ((setsT l k).map (statO ms l k)).map (Option.map fun e=>ordX ms e l[k]):=by
   rw [List.map_map]
   apply List.map_congr_left
   intro i hi
   exact statO_succ ms l (by omega) (setsT_lt hi)
  rw [M,← ih,List.map_map,fstB_at (by omega),← seen_ent ms l _ k (by omega)]
  unfold stepS
  by_cases h1:l[k].kind = 1
  ·rw [if_pos h1,decide_eq_true h1,Bool.true_and]
   have O:∀ e,ordX ms e l[k] = e:=by intro e; unfold ordX; rw [if_neg (fun hh=>absurd (h1.symm.trans hh.1) (by decide))]
   have F:(Option.map (fun e=>ordX ms e l[k]) ∘ some) = (some:Sx → Option Sx):=by funext e; simp [O]
   rw [F]
   cases hh:hasS (entS ms (l.take k)) (idC l[k].c)
   ·rw [if_neg (by simp),List.map_append]
    simp [statO_new ms l (show k < l.length by omega)]
   ·simp
  ·rw [if_neg h1,decide_eq_false h1,Bool.false_and,if_neg Bool.false_ne_true,List.map_nil,List.append_nil]
   split
   ·next h3 =>
    split
    ·next h4 =>
     rw [List.map_map]
     apply List.map_congr_left
     intro e _
     simp [ordX,h3,h4]
    ·next h4 =>
     apply List.map_congr_left
     intro e _
     simp [ordX,h4]
   ·next h3 =>
    apply List.map_congr_left
    intro e _
    simp [ordX,h3]
theorem ent_len (ms:List Int) (l:List RV):(entS ms l).length = (setsT l l.length).length:=by
 have:=congrArg List.length (ent_sets ms l l.length (Nat.le_refl _))
 simpa using this
theorem ent_at (ms:List Int) (l:List RV) {j:Nat} (hj:j < (entS ms l).length) (hs:j < (setsT l l.length).length) :
  ∃ h:(setsT l l.length)[j] < l.length,(l.drop ((setsT l l.length)[j] + 1)).foldl (ordX ms) (newS l[(setsT l l.length)[j]]) = (entS ms l)[j]:=by
 have E:=ent_sets ms l l.length (Nat.le_refl _)
 rw [List.take_length] at E
 have h:(setsT l l.length)[j] < l.length:=setsT_lt (List.getElem_mem hs)
 have e2:=congrArg (fun x:List (Option Sx)=>x[j]?) E
 simp only [List.getElem?_map,List.getElem?_eq_getElem hj,List.getElem?_eq_getElem hs,Option.map_some] at e2
 unfold statO at e2
 rw [List.getElem?_eq_getElem h,List.take_length,Option.map_some] at e2
 exact ⟨h,(Option.some.inj (Option.some.inj e2)).symm⟩
theorem ordX_own (ms:List Int) (e:Sx) (r:RV):(ordX ms e r).own = e.own ∧ (ordX ms e r).id = e.id:=by
 unfold ordX obeyS obeyT
 split
 ·split
  ·split <;> exact ⟨rfl,rfl⟩
  ·exact ⟨rfl,rfl⟩
 ·exact ⟨rfl,rfl⟩
theorem fold_own (ms:List Int):∀ (l:List RV) (e:Sx),(l.foldl (ordX ms) e).own = e.own ∧ (l.foldl (ordX ms) e).id = e.id
 | [],e=>⟨rfl,rfl⟩
 | r :: l,e=>by
  have a:=fold_own ms l (ordX ms e r)
  have b:=ordX_own ms e r
  exact ⟨a.1.trans b.1,a.2.trans b.2⟩
theorem obey_hit {x:RV} {e:Sx} (ht:e.id = x.target) (ho:1 ≤ x.order ∧ x.order ≤ 4):obeyS x e = ⟨e.id,stOf x.order,idC x.c,e.own,if x.order = 3 then x else e.own⟩:=by
 unfold obeyS obeyT; rw [if_pos ht,if_pos ho]
end Go.Proofs.YtniklmikdkjgiaaGreatDoor
namespace Go.Proofs.YtniklmikdkjgiaaGreatDoor
open Go.RowKit Go.Maps Go.ChangeMaps Go.MapKept Go.WideShapes Go.WideMaps
def SeenR (w0 w:World) (bm:Nat) (l:List RV) (i:Nat):Prop:=∃ S nk,MapAt w Tryz.prog 9 bm (seenM S) nk ∧ (∀ t,t ∈ S ↔ seenB (l.take i) t = true) ∧ nk ≤ i ∧ OldB w0 w
theorem rec27_sz (r:RV):(Tryz.prog.info? 56).map (·.size) = some (rvL r).length:=by kernel_rfl
def intsN (l:List Nat):List Value:=intsL (l.map Int.ofNat)
theorem intsN_app (a:List Nat) (i:Nat):intsN (a ++ [i]) = intsN a ++ [.int .i64 (i:Int)]:=by unfold intsN intsL; simp
theorem sets29_any (A:Option Addr) (n c:Nat) (l:List RV) (w:World) (hn:n = l.length) (h:Rs w A l) :
  Calls Tryz.prog 36 #[.slice A n c] w fun e w'=>(∃ A' c',e = .returned (.slice A' (setsT l l.length).length c') ∧ Rd w' A' (intsN (setsT l l.length))) ∧ Below w.heap.size w w':=by
 have hl:n ≤ 100000:=by rw [hn]; exact h.len
 have H:=Lib.hid h
 have HN:=Lib.hid hn
 obtain ⟨bm,hbm⟩:∃ bm,w.heap.size = bm:=⟨_,rfl⟩
 obtain ⟨Wm,hWm⟩:∃ Wm,Wm = w.alloc (.map #[] 0):=⟨_,rfl⟩
 have BWm:Below w.heap.size w Wm:=by rw [hWm]; exact (Below.refl _ _).alloc (Nat.le_refl _) _
 have ZWm:Wm.heap.size = bm + 1:=by rw [hWm,← hbm]; simp
 have I0:Hid (SeenR w Wm bm l 0):=Lib.hid ⟨[],0,by
  have:=MapAt.made w Tryz.prog 9
  rw [← hWm,hbm] at this
  rw [show seenM [] = fun _=>none from by funext y; cases y <;> rfl]
  exact this,(fun t=>by rw [List.take_zero]; simp [seenB]),Nat.le_refl _,BWm⟩
 have mk:∀ u:World,(Instr.makeMap 62 none).run Tryz.prog u = .ok (.map (some u.heap.size)) (u.alloc (.map #[] 0)):=fun u=>run_makeMap _ _
 have ST:Hid (Wm.ownsRow Wm.heap.size 3 1 (.slice none 0 0) (setsT l 0).length (intsN (setsT l 0))):=Lib.hid (World.ownsRow_nil _ _ _ _)
 have OM0:Hid (OldB w Wm):=Lib.hid BWm
 have BM:Hid (w.heap.size = bm):=Lib.hid hbm
 have ZM:Hid (Wm.heap.size = bm + 1):=Lib.hid ZWm
 have Wm0:=Lib.hid hWm
 have bm0:=Lib.hid hbm
 clear h hn hbm hWm BWm ZWm
 go_enter Tryz.func36, Tryz.ntmps36
 go_upto_region 3 with fail
 rw [← Wm0.out,bm0.out]
 clear mk Wm0 bm0
 go_wp2_with fail
 go_loopw [3,5,6] (fun s3 s5 s6 wr=>∃ i:Nat,i ≤ n ∧ s5 = .int .i64 (i:Int) ∧ (∃ p,s6 = p) ∧ Hid (wr.ownsRow Wm.heap.size 3 1 s3 (setsT l i).length (intsN (setsT l i))) ∧ Hid (SeenR w wr bm l i) ∧ Hid (Wm.heap.size ≤ wr.heap.size)) (fun _ i _ _=>n - (intOf i).toNat)
 case atStart=>exact ⟨0,Nat.zero_le _,rfl,⟨_,rfl⟩,ST,I0,Lib.hid (Nat.le_refl _)⟩
 case round =>
  clear I0 ST OM0
  obtain ⟨i,hi,rfl,⟨p6,rfl⟩,OW,SI,HZ⟩:=hrel
  by_cases hlt:i < n
  ·have hkl:i < l.length:=by rw [← HN.out]; exact hlt
   have d1:(i:Int) < (n:Int):=by omega
   have d2:(0:Int) ≤ (i:Int):=by omega
   obtain ⟨S,nk,mp,hS,hnk,OO⟩:=SI.out
   obtain ⟨b,off,rfl,hb,hc⟩:=rvs_at (H.out.rd.below OO) hkl
   have HI:=H.out.is l[i] (List.getElem_mem hkl)
   have HS:=H.out.sz l[i] (List.getElem_mem hkl)
   have FB:=Lib.hid (fstB_at hkl)
   have TK:=Lib.hid (setsT_succ l i)
   have SK:=Lib.hid (fun t=>seen_take hkl t)
   have LE:=setsT_len l i
   generalize setsT l i = G at *
   generalize l[i] = r at *
   have HC:Hid (wr.rangeAt b (off + i * 21) (rvL r)):=Lib.hid (fun j v hj=>hc j v hj)
   have RA:Hid (∀ u,OldB wr u → u.rangeAt b (off + i * 21) (rvL r)):=Lib.hid (rangeAt_old hb HC.out)
   have k0:∀ u,OldB wr u → u.cell? ⟨b,off + i * 21,none⟩ = some (.int .i64 r.kind):=fun u hu=>by have:=RA.out u hu 0 _ rfl; simpa using this
   have IDC:=Lib.hid (id27_any r wr (HI.below OO) HS)
   unfold rvA at IDC
   have KS:=Lib.hid (key_str (idC r.c) (Nat.le_trans (idC_len r.c) (by decide)))
   have SZ:=rec27_sz r
   clear hc HI HS
   go_upto_region 7 with (first
    | (refine wpList_load_mid rfl 56 (.tmp 16) rfl b (off + i * 21) rfl (rvL r) _ HC.out Tryz.underlying56 rfl SZ ?_)
    | ((with_reducible refine IDC.out.mono ?_); rintro e u1 ⟨rfl,b1⟩))
   have O1:OldB wr u1:=b1
   have mp1:=mp.same (b1.block bm mp.lt)
   have OO1:OldB w u1:=OO.then b1
   have k0u:=k0 u1 O1
   have lk:=mp1.look strK Tryz.underlying62 (zBool u1) KS.out
   have OW1:=Lib.hid (own_sameG OW.out (fun g hg=>b1.block g (OW.out.lt g hg).2))
   have HZ1:Hid (Wm.heap.size ≤ u1.heap.size):=Lib.hid (Nat.le_trans HZ.out b1.size)
   clear IDC HC SZ k0 OW HZ SI RA
   by_cases h1:r.kind = 1
   rotate_left
   ·have g1:(r.kind == 1) = false:=by simpa using h1
    have T2:=Lib.hid (TK.out.trans (by rw [FB.out,decide_eq_false h1,Bool.false_and,if_neg Bool.false_ne_true,List.append_nil]))
    have SI2:Hid (SeenR w u1 bm l (i + 1)):=Lib.hid ⟨S,nk,mp1,(fun t=>by rw [SK.out,decide_eq_false h1,Bool.false_and,Bool.or_false]; exact hS t),by omega,OO1⟩
    clear h1 lk mp mp1 TK FB SK b1
    go_wp2_with fail
    exact ⟨⟨i + 1,by omega,by go_num,⟨_,rfl⟩,by rw [T2.out]; exact OW1,SI2,HZ1⟩,by simp [intOf]; omega⟩
   have g1:(r.kind == 1) = true:=by rw [h1]; rfl
   cases hh:seenB (l.take i) (idC r.c)
   ·have nm:idC r.c ∉ S:=fun hm=>by rw [(hS _).1 hm] at hh; cases hh
    have lv:((seenM S (.string (idC r.c))).getD (.bool false)) = .bool false:=by
     show (if idC r.c ∈ S then _ else _:Option Value).getD _ = _
     rw [if_neg nm]; rfl
    rw [lv] at lk
    have hm:seenM S (.string (idC r.c)) = none:=by show (if idC r.c ∈ S then _ else _:Option Value) = _; rw [if_neg nm]
    obtain ⟨w2,hup,mp2,hg2⟩:=mp1.upd strK Tryz.underlying62 (by unfold maxLen; omega) KS.out (.bool true)
    rw [seenM_upd,hm] at mp2
    have O2x:OldB w w2:=OO1.trans ⟨hg2.os,hg2.tape,hg2.output,hg2.size,fun k hk=>hg2.block k (Nat.lt_of_lt_of_le hk OO1.size) (fun e1=>by injection e1 with e1; have:=BM.out; omega)⟩
    have T2:=Lib.hid (TK.out.trans (by rw [FB.out,decide_eq_true h1,hh]; rfl:_ = G ++ [i]))
    have OW2:=Lib.hid (own_sameG OW1.out (fun g hg=>hg2.block g (OW1.out.lt g hg).2 (fun e1=>by injection e1 with e1; have:=(OW1.out.lt g hg).1; have:=ZM.out; omega)))
    have SI2:Hid (∀ u,Below Wm.heap.size w2 u → SeenR w u bm l (i + 1)):=Lib.hid (fun u hu=>⟨idC r.c :: S,_,mp2.same (hu.block bm (by have:=ZM.out; omega)),(fun t=>by
     rw [SK.out,decide_eq_true h1,Bool.true_and,List.mem_cons,hS t,Bool.or_eq_true,decide_eq_true_eq]
     constructor
     ·rintro (rfl | h)
      ·exact .inr rfl
      ·exact .inl h
     ·rintro (h | rfl)
      ·exact .inr h
      ·exact .inl rfl),(by simp; omega),O2x.trans (Below.mono hu (by have:=ZM.out; have:=BM.out; omega))⟩)
    have bz:Wm.heap.size ≤ w2.heap.size:=Nat.le_trans HZ1.out hg2.size
    have HZ2:=Lib.hid bz
    clear h1 hh nm lv hm mp mp1 mp2 TK FB SK OO OO1 O1 hS OW1 b1 O2x hg2
    go_wp2_with (at_builtin; refine wpList_appNG rfl (.tmp 33) (.tmp 35) 26 rfl Tryz.underlying26 info_int rfl (by decide) Wm.heap.size _ G.length (intsN G) _ 1 (by decide) rfl (by intro y hy; simp at hy; rw [hy]; rfl) rfl rfl rfl OW2.out bz (by omega) (by omega) ?_; intro g7 c7 w7 ho7 hg7 hl7 hb7)
    refine ⟨⟨i + 1,by omega,by go_num,⟨_,rfl⟩,?_,Lib.hid (SI2.out _ hb7),Lib.hid (Nat.le_trans HZ2.out hb7.size)⟩,by simp [intOf]; omega⟩
    rw [T2.out,List.length_append,intsN_app]
    exact Lib.hid ho7
   ·have hm:idC r.c ∈ S:=(hS _).2 hh
    have lv:((seenM S (.string (idC r.c))).getD (.bool false)) = .bool true:=by
     show (if idC r.c ∈ S then _ else _:Option Value).getD _ = _
     rw [if_pos hm]; rfl
    rw [lv] at lk
    have T2:=Lib.hid (TK.out.trans (by rw [FB.out,hh,Bool.not_true,Bool.and_false,if_neg Bool.false_ne_true,List.append_nil]))
    have SI2:Hid (SeenR w u1 bm l (i + 1)):=Lib.hid ⟨S,nk,mp1,(fun t=>by
     rw [SK.out,hS t,Bool.or_eq_true,Bool.and_eq_true,decide_eq_true_eq,decide_eq_true_eq]
     exact ⟨.inl,fun h=>h.elim id (fun h=>by rw [← h.2]; exact hh)⟩),by omega,OO1⟩
    clear h1 hh hm lv mp mp1 TK FB SK b1
    go_wp2_with fail
    exact ⟨⟨i + 1,by omega,by go_num,⟨_,rfl⟩,by rw [T2.out]; exact OW1,SI2,HZ1⟩,by simp [intOf]; omega⟩
  ·have d1:¬ (i:Int) < (n:Int):=by omega
   obtain rfl:i = n:=by omega
   obtain ⟨S,nk,-,-,-,OO⟩:=SI.out
   have FB:=Lib.hid OO
   obtain ⟨A',c',rfl,hr,-⟩:=own_slG OW.out
   have HRD:=Lib.hid hr
   have LEN:Hid (setsT l i = setsT l l.length):=Lib.hid (by rw [← HN.out])
   rw [LEN.out] at HRD ⊢
   clear hr OW SI OO HZ
   go_wp2_with fail
   go_ret
   first
    | exact ⟨⟨_,_,rfl,HRD.out⟩,FB.out⟩
    | exact ⟨⟨_,⟨_,rfl⟩,HRD.out⟩,FB.out⟩
    | exact ⟨HRD.out,FB.out⟩
end Go.Proofs.YtniklmikdkjgiaaGreatDoor
