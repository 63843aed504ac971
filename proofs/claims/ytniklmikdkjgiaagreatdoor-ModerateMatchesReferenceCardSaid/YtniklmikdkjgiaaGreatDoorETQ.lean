import Derived.Test.YtniklmikdkjgiaaGreatDoorCLD
import Derived.Test.YtniklmikdkjgiaaGreatDoorETP
import Derived.Test.YtniklmikdkjgiaaGreatDoorWD
set_option linter.all false
set_option maxHeartbeats 16000000
set_option maxRecDepth 100000
namespace Go.Proofs.YtniklmikdkjgiaaGreatDoor
open Go.RowKit
theorem ent_order {ms:List Int} {l:List RV} {o:RV} (h3:o.kind = 3) (hm:inI ms o.author = true):entS ms (l ++ [o]) = (entS ms l).map (obeyS o):=by
 rw [entS_app]; unfold stepS; rw [if_neg (by rw [h3]; decide),if_pos h3,hm]; rfl
theorem ent_skip {ms:List Int} {l:List RV} {o:RV} (h3:o.kind = 3) (hm:inI ms o.author = false):entS ms (l ++ [o]) = entS ms l:=by
 rw [entS_app]; unfold stepS; rw [if_neg (by rw [h3]; decide),if_pos h3,hm]; rfl
theorem ent_one {ms:List Int} {c:RV} (h:c.kind = 1):entS ms [c] = [newS c]:=by
 show stepS ms [] c = _
 unfold stepS; rw [if_pos h]; rfl
theorem obeyS_yes {r:RV} {e:Sx} (h:e.id = r.target) (ho:okO r.order = true):obeyS r e = ⟨e.id,stOf r.order,idC r.c,e.own,if r.order = 3 then r else e.own⟩:=by
 unfold obeyS; rw [if_pos h,obeyT_yes ho]
def n1T:Tx:=[110,49]
def n2T:Tx:=[110,50]
def wv (g:Nat):WoV:=⟨.slice none 0 0,[],.slice none 0 0,[0],.slice (some ⟨g,0,none⟩) 1 1,0,.slice none 0 0,.slice none 0 0⟩
theorem wv_is {w:World} {g:Nat} (h:w.heap[g]? = some (.cells #[.int .i64 0] 3 (0,0))):WoIs w (wv g) :=
 ⟨⟨_,_,_,rfl⟩,⟨none,0,rfl,Rd.nil_ _ _⟩,⟨some ⟨g,0,none⟩,1,rfl,Rd.of_row h (by simp [intsL,wv])⟩,⟨_,_,_,rfl⟩,⟨_,_,_,rfl⟩,(fun _ h=>by cases h),(by show 0 ≤ 9223372036854775807; decide),(by show 1 ≤ 9223372036854775807; decide)⟩
def holdR (t:Tx):RV:=ordR 0 1 2 2 t [] (.slice none 0 0)
def badR (t:Tx):RV:=ordR 1 2 3 4 t [] (.slice none 0 0)
def amdR (t:Tx) (v:Value):RV:=ordR 0 2 3 3 t [dropE n2T] v
theorem ent_a {c:RV} (h:c.kind = 1):entS [0] [c,holdR (idC c.c)] = [⟨idC c.c,2,idC (holdR (idC c.c)).c,c,c⟩]:=by
 show entS [0] ([c] ++ [holdR (idC c.c)]) = _
 rw [ent_order rfl rfl,ent_one h]
 show [obeyS (holdR (idC c.c)) (newS c)] = _
 rw [obeyS_yes (r:=holdR (idC c.c)) rfl rfl]; rfl
theorem ent_b {c:RV} (h:c.kind = 1) (t:Tx):entS [0] [holdR t,c] = [newS c]:=by
 show stepS [0] [] c = _
 unfold stepS; rw [if_pos h]; rfl
theorem ent_d {c:RV} (h:c.kind = 1):entS [0] [c,badR (idC c.c)] = [newS c]:=by
 show entS [0] ([c] ++ [badR (idC c.c)]) = _
 rw [ent_skip rfl rfl,ent_one h]
theorem ent_e {c:RV} (h:c.kind = 1) (v:Value):entS [0] [c,holdR (idC c.c),amdR (idC c.c) v] = [⟨idC c.c,1,idC (amdR (idC c.c) v).c,c,amdR (idC c.c) v⟩]:=by
 show entS [0] ([c,holdR (idC c.c)] ++ [amdR (idC c.c) v]) = _
 rw [ent_order rfl rfl,ent_a h]
 show [obeyS (amdR (idC c.c) v) _] = _
 rw [obeyS_yes (r:=amdR (idC c.c) v) rfl rfl]; rfl
theorem newRs2 {w:World} (L:List RV) (hL:∀ r ∈ L,RvIs w r ∧ RcSz r.c) (hn:L.length ≤ 1000):Rs (w.alloc (.cells (rvsL L).toArray 56)) (some ⟨w.heap.size,0,none⟩) L :=
 ⟨Rd.of_row (heap_alloc_new w _) (by simp),fun r hr=>(hL r hr).1.below ((Below.refl _ _).alloc (Nat.le_refl _) _),fun r hr=>(hL r hr).2,by omega⟩
theorem hstat2 (x:WoV) (L:List RV) (n:Nat) (es:List Sx) (u:World) (hn:L.length = n) (he:entS x.mods L = es) (hL:∀ r ∈ L,RvIs u r ∧ RcSz r.c) (hx:WoIs u x) (hm:x.mods.length ≤ 1000000) (ht:Tab u) (hl:n ≤ 1000) :
  Calls Tryz.prog 32 #[.slice (some ⟨u.heap.size,0,none⟩) n n,.agg (woL x).toArray] (u.alloc (.cells (rvsL L).toArray 56)) fun e w'=>(∃ A' c',e = .returned (.slice A' es.length c') ∧ Rd w' A' (stsL es)) ∧ Below u.heap.size u w':=by
 have BA:Below u.heap.size u (u.alloc (.cells (rvsL L).toArray 56)):=(Below.refl _ _).alloc (Nat.le_refl _) _
 refine (status_any (some ⟨u.heap.size,0,none⟩) n n L x _ hn.symm (newRs2 L hL (by omega)) (hx.below BA) hm (ht.keep BA)).mono ?_
 rintro e w' ⟨v,rfl,ho,hb⟩
 rw [he] at ho
 obtain ⟨A',c',rfl,hr,-⟩:=own_slG ho
 exact ⟨⟨A',c',rfl,hr⟩,BA.trans (hb.mono BA.size)⟩
theorem hof (x:WoV) (L:List RV) (n:Nat) (e:Sx) (A:Option Addr) (cs:Array Value) (u:World) (hn:L.length = n) (he:entS x.mods L = [e]) (hc:(stL e).toArray = cs) (hR:Rs u A L) (hx:WoIs u x) (hm:x.mods.length ≤ 1000000) (ht:Tab u) (hl:e.id.length ≤ 1000000) :
  Calls Tryz.prog 29 #[.slice A n n,.agg (woL x).toArray,.string (mkB e.id)] u fun en w'=>en = .returned (.tuple #[.agg cs,.bool true]) ∧ Below u.heap.size u w':=by
 have:=of_any A n n L x e.id u hn.symm hR hx hm hl ht
 have h1:ofS [e] e.id = some e:=by unfold ofS; rw [List.find?_cons]; simp
 have h2:hasS [e] e.id = true:=by unfold hasS; simp
 rw [he,h1,h2,show ofV (some e) = cs from hc] at this
 exact this
theorem rng_keep {w u:World} {b o:Nat} {cs:List Value} (hb:b < w.heap.size) (h:w.rangeAt b o cs) (hu:OldB w u):u.rangeAt b o cs:=fun j v hv=>(World.cell?_of_block (w:=w) (hu.block b hb)).trans (h j v hv)
theorem size_setCells4 {u:World} (g:Nat) (cs:Array Value) {old:Array Value} {t:TypeId} (_:u.heap[g]? = some (.cells old t (0,0))):(u.setCells g 0 cs.toList).heap.size = u.heap.size:=by
 have:∀ (vs:List Value) (o:Nat) (v:World),(v.setCells g o vs).heap.size = v.heap.size:=by
  intro vs
  induction vs with
  | nil=>intro o v; rfl
  | cons x vs ih=>intro o v; exact (ih (o + 1) (v.setCell ⟨g,o,none⟩ x)).trans (by simp)
 exact this _ _ _
theorem done4 {W u:World} {g:Nat} {old:Array Value} {t:TypeId} (cs:Array Value) (h:OldB W u) (hx:u.heap[g]? = some (.cells old t (0,0))) (hg:W.heap.size ≤ g) (hs:cs.size = old.size):OldB W (u.setCells g 0 cs.toList) ∧ (u.setCells g 0 cs.toList).rangeAt g 0 cs.toList ∧ g < (u.setCells g 0 cs.toList).heap.size :=
 ⟨below_setCells (w':=u) g cs.toList 0 u h hg,range_setCells hx hs,by rw [size_setCells4 g cs hx]; exact lt_of_block hx⟩
theorem box4_new {W u:World} {cs:Array Value} {t:TypeId} (_:OldB W (u.alloc (.cells cs t))):(u.alloc (.cells cs t)).heap[u.heap.size]? = some (.cells cs t (0,0)):=heap_alloc_new u _
theorem st_cells {w:World} {A:Option Addr} {e:Sx} (h:Rd w A (stsL [e])):∃ b off,A = some ⟨b,off,none⟩ ∧ ∀ u,OldB w u → u.rangeAt b off (stL e):=by
 obtain ⟨b,off,e1,hb,hc⟩:=h (by rw [stsL_one]; exact Nat.succ_pos 3)
 refine ⟨b,off,e1,rangeAt_old hb (fun j v hj=>?_)⟩
 rw [stsL_one] at hc
 exact hc j v hj
theorem head29_any (w:World) (ht:Tab w):Calls Tryz.prog 27 #[] w fun e w'=>e = .returned (.bool true) ∧ Below w.heap.size w w':=by
 obtain ⟨g0,hg0⟩:∃ g,w.heap.size = g:=⟨_,rfl⟩
 obtain ⟨bW,hbW⟩:∃ g,w.heap.size + 1 = g:=⟨_,rfl⟩
 obtain ⟨W,hW⟩:∃ W,W = (w.alloc (.cells #[.int .i64 0] 3)).alloc (.cells #[.slice none 0 0,.slice none 0 0,.slice (some ⟨g0,0,none⟩) 1 1,.int .i64 0,.slice none 0 0,.slice none 0 0] 38):=⟨_,rfl⟩
 have XG:W.heap[g0]? = some (.cells #[.int .i64 0] 3 (0,0)):=by rw [hW,← hg0]; exact (alloc_old _ _ (by simp)).trans (heap_alloc_new w _)
 have XW:W.heap[bW]? = some (.cells (woL (wv g0)).toArray 38 (0,0)):=by rw [hW,← hbW]; exact alloc_new' _ _ _ (by simp)
 have BW:Below w.heap.size w W:=by rw [hW]; exact ((Below.refl _ _).alloc (Nat.le_refl _) _).alloc (by simp) _
 have RWD:Hid (∀ u,OldB W u → u.rangeAt bW 0 (woL (wv g0))):=Lib.hid (fun u hu=>by have:=range_of_row ((hu.block bW (lt_of_block XW)).trans XW); simpa using this)
 have WIS:Hid (∀ u,OldB W u → WoIs u (wv g0)):=Lib.hid (fun u hu=>(wv_is XG).below hu)
 have TT:Hid (∀ u,OldB W u → Tab u):=Lib.hid (fun u hu=>ht.keep (BW.trans (Below.mono hu BW.size)))
 have BB:Hid (∀ u,OldB W u → Below w.heap.size w u):=Lib.hid (fun u hu=>BW.trans (Below.mono hu BW.size))
 have CH:=Lib.hid (change_any n1T W)
 have H0:=Lib.hid hg0
 have H1:=Lib.hid hbW
 have HW:=Lib.hid hW
 clear XG XW BW ht hg0 hbW hW
 go_enter Tryz.func27, Tryz.ntmps27
 go_upto_region 2 with fail
 rw [H1.out,H0.out]
 rw [← HW.out]
 clear HW H0 H1
 have CH2:Hid (Calls Tryz.prog 62 #[.string ⟨#[110,49]⟩] W fun e w'=>∃ g,e = .returned (.agg (rvL (chgR n1T (.slice (some ⟨g,0,none⟩) 1 1))).toArray) ∧ W.heap.size ≤ g ∧ w'.heap[g]? = some (.cells (evL (dropE n1T)).toArray 93 (0,0)) ∧ Below W.heap.size W w'):=Lib.hid CH.out
 clear CH
 go_wp2_with fail
 (with_reducible refine CH2.out.mono ?_)
 rintro e u2 ⟨g2,rfl,hg2,E2,b2⟩
 have cI0:RvIs u2 (chgR n1T (.slice (some ⟨g2,0,none⟩) 1 1)):=mod_is ⟨_,_,rfl,drop_es E2 (by decide)⟩
 have cS:RcSz (chgR n1T (.slice (some ⟨g2,0,none⟩) 1 1)).c:=mod_sz (by decide)
 have KC:(chgR n1T (.slice (some ⟨g2,0,none⟩) 1 1)).kind = 1:=rfl
 have EDC:Hid (∃ A n c,(chgR n1T (.slice (some ⟨g2,0,none⟩) 1 1)).edv = .slice A n c):=Lib.hid ⟨_,_,_,rfl⟩
 generalize chgR n1T (.slice (some ⟨g2,0,none⟩) 1 1) = c at *
 have EA:=Lib.hid (ent_a KC)
 have EB:=Lib.hid (fun t=>ent_b KC t)
 have EDD:=Lib.hid (ent_d KC)
 have EE:=Lib.hid (fun v=>ent_e KC v)
 have ONEc:=Lib.hid (rvL_one c ⟨u2,cI0⟩)
 obtain ⟨X2,hX2⟩:∃ u,u = u2.alloc (.cells (rvL c).toArray 56):=⟨_,rfl⟩
 obtain ⟨b2x,hb2x⟩:∃ g,u2.heap.size = g:=⟨_,rfl⟩
 have BX2:OldB u2 X2:=by rw [hX2]; exact (Below.refl _ _).alloc (Nat.le_refl _) _
 have XXX2:X2.heap[b2x]? = some (.cells (rvL c).toArray 56 (0,0)):=by rw [hX2,← hb2x]; exact heap_alloc_new u2 _
 have RX2:Hid (∀ u,OldB X2 u → u.rangeAt b2x 0 (rvL c)):=Lib.hid (fun u hu=>by have:=range_of_row ((hu.block b2x (lt_of_block XXX2)).trans XXX2); simpa using this)
 have FSX2:=Lib.hid (fun z (hz:z.length = 21)=>setCells_fresh u2 z (rvL c) hz rfl ONEc.out)
 have X2H:=Lib.hid hX2
 have X2B:=Lib.hid hb2x
 clear hX2 hb2x XXX2
 have O2:OldB W X2:=OldB.then b2 BX2
 have cI:=Lib.hid (fun u (hu:OldB X2 u)=>(cI0.below (Below.trans BX2 (Below.mono hu (Below.size BX2))):RvIs u c))
 have CS:=Lib.hid cS
 have IDc:=Lib.hid (fun u (hu:OldB X2 u)=>id_any c u (cI.out u hu) cS (TT.out u (O2.then hu)))
 unfold rvA at IDc
 have ORD:=Lib.hid (fun (a n o:Int) (l:List EV) (A:Option Addr) (k:Nat) (hn:0 ≤ n ∧ n ≤ 100) u (hu:OldB X2 u)=>order_any a n o c l A k u hn (cI.out u hu) cS (TT.out u (O2.then hu)))
 have OR1:Hid (Calls Tryz.prog 63 #[.int .i64 0,.int .i64 1,.int .i64 2,.agg (rvL c).toArray,.slice none 0 0] X2 fun e w'=>e = .returned (.agg (rvL (holdR (idC c.c))).toArray) ∧ Below X2.heap.size X2 w'):=Lib.hid (ORD.out 0 1 2 [] none 0 (by decide) X2 (Below.refl _ _))
 have SX2:OldB X2 X2:=Below.refl _ _
 clear CH2 E2 hg2 cI0 KC cS
 go_upto_region 3 with (refine wpList_store_mid rfl 56 (.tmp 2) (.tmp 13) rfl u2.heap.size 0 (rvL c).toArray rfl rfl (there_of_row (heap_alloc_new u2 _) (Nat.le_refl 21)) (mrec_szA c) ONEc.out ?_; rw [List.toList_toArray,FSX2.out _ rfl,← X2H.out,X2B.out])
 go_wp2_with (refine wpList_load_mid rfl 56 (.tmp 2) rfl b2x 0 rfl (rvL c) _ (RX2.out _ SX2) Tryz.underlying56 rfl (mrec_szL c) ?_)
 (with_reducible refine OR1.out.mono ?_)
 rintro e u3 ⟨rfl,b3⟩
 have hI0:∀ u,RvIs u (holdR (idC c.c)):=fun u=>mod_is ⟨none,0,rfl,es_nil u⟩
 have hS:RcSz (holdR (idC c.c)).c:=mod_sz (Nat.le_trans (idC_len c.c) (by decide))
 have dI0:∀ u,RvIs u (badR (idC c.c)):=fun u=>mod_is ⟨none,0,rfl,es_nil u⟩
 have dS:RcSz (badR (idC c.c)).c:=mod_sz (Nat.le_trans (idC_len c.c) (by decide))
 have aS:∀ v,RcSz (amdR (idC c.c) v).c:=fun v=>mod_sz (Nat.le_trans (idC_len c.c) (by decide))
 have OR2:Hid (∀ u,OldB X2 u → Calls Tryz.prog 63 #[.int .i64 1,.int .i64 2,.int .i64 4,.agg (rvL c).toArray,.slice none 0 0] u fun e w'=>e = .returned (.agg (rvL (badR (idC c.c))).toArray) ∧ Below u.heap.size u w'):=Lib.hid (fun u hu=>ORD.out 1 2 4 [] none 0 (by decide) u hu)
 have OR3:Hid (∀ k u,OldB X2 u → Calls Tryz.prog 63 #[.int .i64 0,.int .i64 2,.int .i64 3,.agg (rvL c).toArray,.slice (some ⟨k,0,none⟩) 1 1] u fun e w'=>e = .returned (.agg (rvL (amdR (idC c.c) (.slice (some ⟨k,0,none⟩) 1 1))).toArray) ∧ Below u.heap.size u w'):=Lib.hid (fun k u hu=>ORD.out 0 2 3 [dropE n2T] (some ⟨k,0,none⟩) 1 (by decide) u hu)
 obtain ⟨hold,hho⟩:∃ r,holdR (idC c.c) = r:=⟨_,rfl⟩
 obtain ⟨bad,hba⟩:∃ r,badR (idC c.c) = r:=⟨_,rfl⟩
 rw [hho] at hI0 hS EA EE ⊢
 rw [hba] at dI0 dS EDD OR2
 have EB:=Lib.hid (EB.out (idC c.c))
 rw [hho] at EB
 have ONEh:=Lib.hid (rvL_one hold ⟨u3,hI0 u3⟩)
 obtain ⟨X3,hX3⟩:∃ u,u = u3.alloc (.cells (rvL hold).toArray 56):=⟨_,rfl⟩
 obtain ⟨b3x,hb3x⟩:∃ g,u3.heap.size = g:=⟨_,rfl⟩
 have BX3:OldB u3 X3:=by rw [hX3]; exact (Below.refl _ _).alloc (Nat.le_refl _) _
 have XXX3:X3.heap[b3x]? = some (.cells (rvL hold).toArray 56 (0,0)):=by rw [hX3,← hb3x]; exact heap_alloc_new u3 _
 have RX3:Hid (∀ u,OldB X3 u → u.rangeAt b3x 0 (rvL hold)):=Lib.hid (fun u hu=>by have:=range_of_row ((hu.block b3x (lt_of_block XXX3)).trans XXX3); simpa using this)
 have FSX3:=Lib.hid (fun z (hz:z.length = 21)=>setCells_fresh u3 z (rvL hold) hz rfl ONEh.out)
 have X3H:=Lib.hid hX3
 have X3B:=Lib.hid hb3x
 clear hX3 hb3x XXX3
 have O3:OldB X2 X3:=OldB.then b3 BX3
 have SX3:OldB X3 X3:=Below.refl _ _
 clear hho hba OR1 ORD b2 b3
 obtain ⟨X4,hX4⟩:∃ u,u = X3.alloc (.cells #[.int .i64 5,.string ⟨#[110,50]⟩,.string ⟨#[]⟩,.string ⟨#[]⟩,.int .i64 0,.int .i64 0,.string ⟨#[]⟩,.string ⟨#[]⟩,.slice none 0 0,.string ⟨#[]⟩,.int .i64 0,.int .i64 0,.int .i64 0,.slice none 0 0,.slice none 0 0] 93):=⟨_,rfl⟩
 obtain ⟨g4,hg4⟩:∃ g,X3.heap.size = g:=⟨_,rfl⟩
 have BX4:OldB X3 X4:=by rw [hX4]; exact (Below.refl _ _).alloc (Nat.le_refl _) _
 have E4:X4.heap[g4]? = some (.cells (evL (dropE n2T)).toArray 93 (0,0)):=by rw [hX4,← hg4]; exact heap_alloc_new X3 _
 have O4:OldB X2 X4:=O3.then BX4
 have OR4:=Lib.hid (OR3.out g4 X4 O4)
 have X4H:=Lib.hid hX4
 have X4B:=Lib.hid hg4
 clear hX4 hg4
 go_upto_region 4 with (refine wpList_store_mid rfl 56 (.tmp 3) (.tmp 15) rfl u3.heap.size 0 (rvL hold).toArray rfl rfl (there_of_row (heap_alloc_new u3 _) (Nat.le_refl 21)) (mrec_szA hold) ONEh.out ?_; rw [List.toList_toArray,FSX3.out _ rfl,← X3H.out,X3B.out])
 go_upto_region 5 with fail
 rw [← X4H.out,X4B.out]
 clear X4H X4B
 go_wp2_with (refine wpList_load_mid rfl 56 (.tmp 2) rfl b2x 0 rfl (rvL c) _ (RX2.out _ O4) Tryz.underlying56 rfl (mrec_szL c) ?_)
 (with_reducible refine OR4.out.mono ?_)
 rintro e u5 ⟨rfl,b5⟩
 have aI0:RvIs X4 (amdR (idC c.c) (.slice (some ⟨g4,0,none⟩) 1 1)):=mod_is ⟨_,_,rfl,drop_es E4 (by decide)⟩
 have aS:=aS (.slice (some ⟨g4,0,none⟩) 1 1)
 have EE:=Lib.hid (EE.out (.slice (some ⟨g4,0,none⟩) 1 1))
 have EDA:Hid ((amdR (idC c.c) (.slice (some ⟨g4,0,none⟩) 1 1)).edv = .slice (some ⟨g4,0,none⟩) 1 1):=Lib.hid rfl
 generalize amdR (idC c.c) (.slice (some ⟨g4,0,none⟩) 1 1) = amd at *
 have ONEa:=Lib.hid (rvL_one amd ⟨X4,aI0⟩)
 obtain ⟨X5,hX5⟩:∃ u,u = u5.alloc (.cells (rvL amd).toArray 56):=⟨_,rfl⟩
 obtain ⟨b5x,hb5x⟩:∃ g,u5.heap.size = g:=⟨_,rfl⟩
 have BX5:OldB u5 X5:=by rw [hX5]; exact (Below.refl _ _).alloc (Nat.le_refl _) _
 have XXX5:X5.heap[b5x]? = some (.cells (rvL amd).toArray 56 (0,0)):=by rw [hX5,← hb5x]; exact heap_alloc_new u5 _
 have RX5:Hid (∀ u,OldB X5 u → u.rangeAt b5x 0 (rvL amd)):=Lib.hid (fun u hu=>by have:=range_of_row ((hu.block b5x (lt_of_block XXX5)).trans XXX5); simpa using this)
 have FSX5:=Lib.hid (fun z (hz:z.length = 21)=>setCells_fresh u5 z (rvL amd) hz rfl ONEa.out)
 have X5H:=Lib.hid hX5
 have X5B:=Lib.hid hb5x
 clear hX5 hb5x XXX5
 have O5:OldB X4 X5:=OldB.then b5 BX5
 have E4H:=Lib.hid E4
 clear OR4 OR3 b5 E4
 go_upto_region 6 with (refine wpList_store_mid rfl 56 (.tmp 5) (.tmp 20) rfl u5.heap.size 0 (rvL amd).toArray rfl rfl (there_of_row (heap_alloc_new u5 _) (Nat.le_refl 21)) (mrec_szA amd) ONEa.out ?_; rw [List.toList_toArray,FSX5.out _ rfl,← X5H.out,X5B.out])
 clear FSX2 FSX3 FSX5 X2H X2B X3H X3B X5H X5B ONEc ONEh ONEa
 have OX5:OldB X2 X5:=O4.then O5
 have O35:OldB X3 X5:=BX4.then O5
 have LI:Hid (∀ u,OldB X5 u → (RvIs u c ∧ RcSz c.c) ∧ (RvIs u hold ∧ RcSz hold.c) ∧ (RvIs u bad ∧ RcSz bad.c) ∧ (RvIs u amd ∧ RcSz amd.c)):=Lib.hid (fun u hu=>⟨⟨cI.out u (OX5.then hu),CS.out⟩,⟨hI0 u,hS⟩,⟨dI0 u,dS⟩,⟨aI0.below (O5.then hu),aS⟩⟩)
 have RC:Hid (∀ u,OldB X5 u → u.rangeAt b2x 0 (rvL c)):=Lib.hid (fun u hu=>RX2.out u (OX5.then hu))
 have RH:Hid (∀ u,OldB X5 u → u.rangeAt b3x 0 (rvL hold)):=Lib.hid (fun u hu=>RX3.out u (O35.then hu))
 have RA:=RX5
 have OW5:OldB W X5:=O2.then OX5
 have RW5:Hid (∀ u,OldB X5 u → u.rangeAt bW 0 (woL (wv g0))):=Lib.hid (fun u hu=>RWD.out u (OW5.then hu))
 have WI5:Hid (∀ u,OldB X5 u → WoIs u (wv g0)):=Lib.hid (fun u hu=>WIS.out u (OW5.then hu))
 have T5:Hid (∀ u,OldB X5 u → Tab u):=Lib.hid (fun u hu=>TT.out u (OW5.then hu))
 have B5:Hid (∀ u,OldB X5 u → Below w.heap.size w u):=Lib.hid (fun u hu=>BB.out u (OW5.then hu))
 have ID5:Hid (∀ u,OldB X5 u → Calls Tryz.prog 37 #[.agg (rvL c).toArray] u fun e w'=>e = .returned (.string (mkB (idC c.c))) ∧ Below u.heap.size u w'):=Lib.hid (fun u hu=>IDc.out u (OX5.then hu))
 have IDH:Hid (∀ u,OldB X5 u → Calls Tryz.prog 37 #[.agg (rvL hold).toArray] u fun e w'=>e = .returned (.string (mkB (idC hold.c))) ∧ Below u.heap.size u w'):=Lib.hid (fun u hu=>id_any hold u (LI.out u hu).2.1.1 (LI.out u hu).2.1.2 (T5.out u hu))
 have IDA:Hid (∀ u,OldB X5 u → Calls Tryz.prog 37 #[.agg (rvL amd).toArray] u fun e w'=>e = .returned (.string (mkB (idC amd.c))) ∧ Below u.heap.size u w'):=Lib.hid (fun u hu=>id_any amd u (LI.out u hu).2.2.2.1 (LI.out u hu).2.2.2.2 (T5.out u hu))
 have OR5:Hid (∀ u,OldB X5 u → Calls Tryz.prog 63 #[.int .i64 1,.int .i64 2,.int .i64 4,.agg (rvL c).toArray,.slice none 0 0] u fun e w'=>e = .returned (.agg (rvL bad).toArray) ∧ Below u.heap.size u w'):=Lib.hid (fun u hu=>OR2.out u (OX5.then hu))
 have S6:Hid (∀ u,OldB X5 u → Calls Tryz.prog 32 #[.slice (some ⟨u.heap.size,0,none⟩) 2 2,.agg (woL (wv g0)).toArray] (u.alloc (.cells (rvsL [c,hold]).toArray 56)) fun e w'=>(∃ A' c',e = .returned (.slice A' 1 c') ∧ Rd w' A' (stsL [⟨idC c.c,2,idC hold.c,c,c⟩])) ∧ Below u.heap.size u w'):=Lib.hid (fun u hu=>hstat2 (wv g0) [c,hold] 2 [⟨idC c.c,2,idC hold.c,c,c⟩] u rfl EA.out (fun r hr=>by
  simp only [List.mem_cons,List.not_mem_nil,or_false] at hr
  rcases hr with rfl | rfl
  ·exact (LI.out u hu).1
  ·exact (LI.out u hu).2.1) (WI5.out u hu) (by show 1 ≤ 1000000; decide) (T5.out u hu) (by decide))
 have S7:Hid (∀ u,OldB X5 u → Calls Tryz.prog 32 #[.slice (some ⟨u.heap.size,0,none⟩) 2 2,.agg (woL (wv g0)).toArray] (u.alloc (.cells (rvsL [hold,c]).toArray 56)) fun e w'=>(∃ A' c',e = .returned (.slice A' 1 c') ∧ Rd w' A' (stsL [newS c])) ∧ Below u.heap.size u w'):=Lib.hid (fun u hu=>hstat2 (wv g0) [hold,c] 2 [newS c] u rfl EB.out (fun r hr=>by
  simp only [List.mem_cons,List.not_mem_nil,or_false] at hr
  rcases hr with rfl | rfl
  ·exact (LI.out u hu).2.1
  ·exact (LI.out u hu).1) (WI5.out u hu) (by show 1 ≤ 1000000; decide) (T5.out u hu) (by decide))
 have S8:Hid (∀ u,OldB X5 u → Calls Tryz.prog 32 #[.slice (some ⟨u.heap.size,0,none⟩) 2 2,.agg (woL (wv g0)).toArray] (u.alloc (.cells (rvsL [c,bad]).toArray 56)) fun e w'=>(∃ A' c',e = .returned (.slice A' 1 c') ∧ Rd w' A' (stsL [newS c])) ∧ Below u.heap.size u w'):=Lib.hid (fun u hu=>hstat2 (wv g0) [c,bad] 2 [newS c] u rfl EDD.out (fun r hr=>by
  simp only [List.mem_cons,List.not_mem_nil,or_false] at hr
  rcases hr with rfl | rfl
  ·exact (LI.out u hu).1
  ·exact (LI.out u hu).2.2.1) (WI5.out u hu) (by show 1 ≤ 1000000; decide) (T5.out u hu) (by decide))
 have SO:Hid (∀ u A,OldB X5 u → Rs u A [c,hold,amd] → Calls Tryz.prog 29 #[.slice A 3 3,.agg (woL (wv g0)).toArray,.string (mkB (idC c.c))] u fun en w'=>en = .returned (.tuple #[.agg #[.string (mkB (idC c.c)),.int .i64 1,.string (mkB (idC amd.c)),.slice (some ⟨g4,0,none⟩) 1 1],.bool true]) ∧ Below u.heap.size u w'):=Lib.hid (fun u A hu hR=>hof (wv g0) [c,hold,amd] 3 ⟨idC c.c,1,idC amd.c,c,amd⟩ A #[.string (mkB (idC c.c)),.int .i64 1,.string (mkB (idC amd.c)),.slice (some ⟨g4,0,none⟩) 1 1] u rfl EE.out (by unfold stL; dsimp only; rw [EDA.out]) hR (WI5.out u hu) (by show 1 ≤ 1000000; decide) (T5.out u hu) (Nat.le_trans (idC_len c.c) (by decide)))
 have SX5:OldB X5 X5:=Below.refl _ _
 have E45:Hid (∀ u,OldB X5 u → Calls Tryz.prog 38 #[.slice (some ⟨g4,0,none⟩) 1 1,.slice (some ⟨g4,0,none⟩) 1 1] u fun e w'=>e = .returned (.bool true) ∧ Below u.heap.size u w'):=Lib.hid (fun u hu=>by
  have e4:=drop_es E4H.out (t:=n2T) (by decide)
  have:=edits29_any (some ⟨g4,0,none⟩) (some ⟨g4,0,none⟩) 1 1 [dropE n2T] [dropE n2T] 1 1 u rfl rfl (e4.below (O5.then hu)) (e4.below (O5.then hu))
  rw [show all2 (fun a b=>sameE a.c b.c) [dropE n2T] [dropE n2T] = true by simp [all2,(sameE_iff _ _).2]] at this
  exact this)
 clear cI CS hI0 hS dI0 dS aI0 aS RX2 RX3 RX5 OW5 RWD WIS TT BB IDc OR2 EA EB EDD EE EDA E4H O2 O3 O4 O5 OX5 O35 BX2 BX3 BX4 BX5 SX2 SX3 EDC
 have ZW:=mwo_szL (wv g0)
 generalize woL (wv g0) = xw at *
 go_wp2_with (first
  | (refine wpList_load_mid rfl 56 (.tmp 2) rfl b2x 0 rfl (rvL c) _ (RC.out _ SX5) Tryz.underlying56 rfl (mrec_szL c) ?_)
  | (refine wpList_load_mid rfl 56 (.tmp 3) rfl b3x 0 rfl (rvL hold) _ (RH.out _ SX5) Tryz.underlying56 rfl (mrec_szL hold) ?_)
  | (refine wpList_recs rfl [c,hold] 2 _ rfl rfl (by decide) (by decide) (by kernel_rfl) ?_)
  | (refine wpList_load_mid rfl 38 (.tmp 1) rfl bW 0 rfl xw _ (RW5.out _ (SX5.alloc _)) Tryz.underlying38 rfl ZW ?_))
 (with_reducible refine (S6.out X5 SX5).mono ?_)
 rintro e u6 ⟨⟨A6,c6,rfl,h6⟩,b6⟩
 have O6:OldB X5 u6:=b6
 obtain ⟨ga,oa,rfl,R6⟩:=st_cells h6
 clear h6 b6 S6
 go_wp2_with (first
  | (refine wpList_load_mid rfl 56 (.tmp 2) rfl b2x 0 rfl (rvL c) _ (RC.out _ O6) Tryz.underlying56 rfl (mrec_szL c) ?_)
  | (refine wpList_load_mid rfl 56 (.tmp 3) rfl b3x 0 rfl (rvL hold) _ (RH.out _ O6) Tryz.underlying56 rfl (mrec_szL hold) ?_)
  | (refine wpList_recs rfl [hold,c] 2 _ rfl rfl (by decide) (by decide) (by kernel_rfl) ?_)
  | (refine wpList_load_mid rfl 38 (.tmp 1) rfl bW 0 rfl xw _ (RW5.out _ (O6.alloc _)) Tryz.underlying38 rfl ZW ?_))
 (with_reducible refine (S7.out u6 O6).mono ?_)
 rintro e u7 ⟨⟨A7,c7,rfl,h7⟩,b7⟩
 have O67:OldB u6 u7:=b7
 have O7:OldB X5 u7:=O6.then b7
 obtain ⟨gb,ob,rfl,R7⟩:=st_cells h7
 clear h7 b7 S7
 have L7:∀ u,OldB u7 u → OldB X5 u:=fun u hu=>O7.then hu
 go_upto_region 8 with fail
 (refine wp_region_noPanic ?_; refine wp_region_held_drew (S := (OldB u7)) (by kernel_rfl) ?_ (fun hHeld => ?_); exact Below.drew (Below.refl _ _))
 (refine ldW 0 56 (.tmp 2) b2x 0 (rvL c) _ (fun v hv => RC.out v (O7.then hv)) Tryz.underlying56 (mrec_szL c) ?_; try simp only [gmS])
 (refine ldW 1 56 (.tmp 2) b2x 0 (rvL c) _ (fun v hv => RC.out v (O7.then hv)) Tryz.underlying56 (mrec_szL c) ?_; try simp only [gmS])
 (refine ldW 4 38 (.tmp 1) bW 0 xw _ (fun v hv => RW5.out v (O7.then hv)) Tryz.underlying38 ZW ?_; try simp only [gmS])
 refine rdR 2 (fun K hK=>?_)
 go_simp
 (with_reducible refine (OR5.out _ (L7 _ hHeld)).mono ?_)
 rintro e v1 ⟨rfl,t1⟩
 (refine hK.out _ _ (OldB.then hHeld t1) (fun hHeld2 => ?_); clear hK K hHeld; have hHeld := hHeld2; clear hHeld2; try simp only [gmS])
 refine rdR 3 (fun K hK=>?_)
 refine wp_recs [c,bad] 2 _ rfl rfl (by decide) (by decide) (by kernel_rfl) ?_
 have ST8:=Lib.hid (S8.out _ (L7 _ hHeld))
 have HB8:=Lib.hid hHeld
 (refine hK.out _ _ (OldB.alloc hHeld _) (fun hHeld2 => ?_); clear hK K hHeld; have hHeld := hHeld2; clear hHeld2; try simp only [gmS])
 refine rdR 5 (fun K hK=>?_)
 go_simp
 (with_reducible refine ST8.out.mono ?_)
 rintro e v2 ⟨⟨A8,c8,rfl,h8⟩,t2⟩
 (refine hK.out _ _ (OldB.then HB8.out t2) (fun hHeld2 => ?_); clear hK K hHeld; have hHeld := hHeld2; clear hHeld2; try simp only [gmS])
 (refine tkW 6 ?_; try simp only [gmS])
 have O78:OldB u7 v2:=hHeld
 have O8:OldB X5 v2:=L7 _ hHeld
 (refine wpAnyH_done (by kernel_rfl) ?_ _; refine NoPanic.normal ?_)
 obtain ⟨gd,od,rfl,R8⟩:=st_cells h8
 clear h8 t2 t1 ST8 HB8 S8 OR5 hHeld
 have L8:∀ u,OldB v2 u → OldB X5 u:=fun u hu=>O8.then hu
 go_upto_region 9 with fail
 go_cut [9,10] (fun s9 s10 wx=>∃ b9,s9 = .pointer (some ⟨b9,0,none⟩) ∧ s10 = .bool true ∧ Hid (wx.rangeAt b9 0 [.string (mkB (idC c.c)),.int .i64 1,.string (mkB (idC amd.c)),.slice (some ⟨g4,0,none⟩) 1 1] ∧ b9 < wx.heap.size) ∧ Hid (OldB v2 wx))
 case first =>
  generalize mkB (idC c.c) = kv at *
  generalize mkB (idC amd.c) = av at *
  (refine wp_region_noPanic ?_; refine wp_region_held_drew (S := (OldB v2)) (by kernel_rfl) ?_ (fun hHeld => ?_); exact Below.drew (Below.refl _ _))
  generalize v2.drew = ud at *
  (refine ldW 0 56 (.tmp 2) b2x 0 (rvL c) _ (fun v hv => RC.out v (O8.then hv)) Tryz.underlying56 (mrec_szL c) ?_; try simp only [gmS])
  (refine ldW 1 56 (.tmp 3) b3x 0 (rvL hold) _ (fun v hv => RH.out v (O8.then hv)) Tryz.underlying56 (mrec_szL hold) ?_; try simp only [gmS])
  (refine ldW 2 56 (.tmp 5) b5x 0 (rvL amd) _ (fun v hv => RA.out v (O8.then hv)) Tryz.underlying56 (mrec_szL amd) ?_; try simp only [gmS])
  (refine ldW 4 38 (.tmp 1) bW 0 xw _ (fun v hv => RW5.out v (O8.then hv)) Tryz.underlying38 ZW ?_; try simp only [gmS])
  (refine ldW 5 56 (.tmp 2) b2x 0 (rvL c) _ (fun v hv => RC.out v (O8.then hv)) Tryz.underlying56 (mrec_szL c) ?_; try simp only [gmS])
  (refine wpAnyH_ready (rs := [3, 6, 11]) (by kernel_rfl) (by simp) ?_; refine AllReadyH.cons (o := _) rfl (fun K hK => ?_) (AllReadyH.cons (o := _) rfl (fun K hK => ?_) (AllReadyH.cons (o := _) rfl (fun K hK => ?_) AllReadyH.nil)))
  ·skip
   rw [if_pos (by first | rfl | (simp [Region.wanted,yielded]; done))]
   refine wp_recs [c,hold,amd] 3 _ rfl rfl (by decide) (by decide) (by kernel_rfl) ?_
   have RB:=Lib.hid (newRs2 [c,hold,amd] (fun r hr=>by
    simp only [List.mem_cons,List.not_mem_nil,or_false] at hr
    rcases hr with rfl | rfl | rfl
    ·exact (LI.out _ (L8 _ hHeld)).1
    ·exact (LI.out _ (L8 _ hHeld)).2.1
    ·exact (LI.out _ (L8 _ hHeld)).2.2.2) (by show 3 ≤ 1000; decide))
   try simp only [World.size_alloc] at RB
   (refine hK.out _ _ (OldB.alloc hHeld _) (fun hHeld2 => ?_); clear hK K hHeld; have hHeld := hHeld2; clear hHeld2; try simp only [gmS])
   (refine wpAnyH_ready (rs := [6, 11]) (by kernel_rfl) (by simp) ?_; refine AllReadyH.cons (o := _) rfl (fun K hK => ?_) (AllReadyH.cons (o := _) rfl (fun K hK => ?_) AllReadyH.nil))
   ·skip
    go_simp
    (with_reducible refine (ID5.out _ (L8 _ hHeld)).mono ?_)
    rintro e x1 ⟨rfl,t1⟩
    have RB:=Lib.hid (RB.out.below t1)
    (refine hK.out _ _ (OldB.then hHeld t1) (fun hHeld2 => ?_); clear hK K hHeld; have hHeld := hHeld2; clear hHeld2; try simp only [gmS])
    (refine wpAnyH_ready (rs := [7, 11]) (by kernel_rfl) (by simp) ?_; refine AllReadyH.cons (o := _) rfl (fun K hK => ?_) (AllReadyH.cons (o := _) rfl (fun K hK => ?_) AllReadyH.nil))
    ·skip
     go_simp
     (with_reducible refine (SO.out _ _ (L8 _ hHeld) RB.out).mono ?_)
     rintro e x2 ⟨rfl,t2⟩
     (refine hK.out _ _ (OldB.then hHeld t2) (fun hHeld2 => ?_); clear hK K hHeld; have hHeld := hHeld2; clear hHeld2; try simp only [gmS])
     (refine tkW 8 ?_; try simp only [gmS])
     (refine tkW 9 ?_; try simp only [gmS])
     (refine tkW 10 ?_; try simp only [gmS])
     refine rdR 11 (fun K hK=>?_)
     go_simp
     have hp:=Below.size (show Below _ _ _ from hHeld)
     try simp only [World.size_alloc,World.size_drew] at hp
     have hp:=Lib.hid hp
     (refine hK.out _ _ (OldB.alloc hHeld _) (fun hHeld2 => ?_); clear hK K hHeld; have hHeld := hHeld2; clear hHeld2; try simp only [gmS])
     have XA:=Lib.hid (box4_new hHeld)
     try simp only [World.size_alloc] at XA
     refine rdR 12 (fun K hK=>?_)
     refine wp_store_mid 42 (.tmp 9) (.tmp 46) rfl _ 0 #[.string kv,.int .i64 1,.string av,.slice (some ⟨g4,0,none⟩) 1 1] rfl rfl (there_of_row XA.out (Nat.le_refl 4)) (by kernel_rfl) (by simp [Value.oneCell']) ?_
     have D4:=Lib.hid (done4 #[.string kv,.int .i64 1,.string av,.slice (some ⟨g4,0,none⟩) 1 1] hHeld XA.out hp.out rfl)
     have D41:=D4.out.1
     (refine hK.out _ _ D41 (fun hHeld2 => ?_); clear hK K hHeld; have hHeld := hHeld2; clear hHeld2; try simp only [gmS])
     (refine tkW 13 ?_; try simp only [gmS])
     have OZ:=hHeld
     (refine wpAnyH_done (by kernel_rfl) ?_ _; refine NoPanic.normal ?_)
     go_wp2_with fail
     go_meet
     case rel=>exact ⟨_,rfl,rfl,Lib.hid D4.out.2,Lib.hid OZ⟩
    ·skip
     go_simp
     have hp:=Below.size (show Below _ _ _ from hHeld)
     try simp only [World.size_alloc,World.size_drew] at hp
     have hp:=Lib.hid hp
     have RB:=Lib.hid (RB.out.below ((Below.refl _ _).alloc (Nat.le_refl _) (.cells #[.string ⟨#[]⟩,.int .i64 0,.string ⟨#[]⟩,.slice none 0 0] 42)))
     (refine hK.out _ _ (OldB.alloc hHeld _) (fun hHeld2 => ?_); clear hK K hHeld; have hHeld := hHeld2; clear hHeld2; try simp only [gmS])
     have XA:=Lib.hid (box4_new hHeld)
     try simp only [World.size_alloc] at XA
     refine rdR 7 (fun K hK=>?_)
     go_simp
     (with_reducible refine (SO.out _ _ (L8 _ hHeld) RB.out).mono ?_)
     rintro e x5 ⟨rfl,t5⟩
     have XA:=Lib.hid ((t5.block _ (lt_of_block XA.out)).trans XA.out)
     (refine hK.out _ _ (OldB.then hHeld t5) (fun hHeld2 => ?_); clear hK K hHeld; have hHeld := hHeld2; clear hHeld2; try simp only [gmS])
     (refine tkW 8 ?_; try simp only [gmS])
     (refine tkW 9 ?_; try simp only [gmS])
     (refine tkW 10 ?_; try simp only [gmS])
     refine rdR 12 (fun K hK=>?_)
     refine wp_store_mid 42 (.tmp 9) (.tmp 46) rfl _ 0 #[.string kv,.int .i64 1,.string av,.slice (some ⟨g4,0,none⟩) 1 1] rfl rfl (there_of_row XA.out (Nat.le_refl 4)) (by kernel_rfl) (by simp [Value.oneCell']) ?_
     have D4:=Lib.hid (done4 #[.string kv,.int .i64 1,.string av,.slice (some ⟨g4,0,none⟩) 1 1] hHeld XA.out hp.out rfl)
     have D41:=D4.out.1
     (refine hK.out _ _ D41 (fun hHeld2 => ?_); clear hK K hHeld; have hHeld := hHeld2; clear hHeld2; try simp only [gmS])
     (refine tkW 13 ?_; try simp only [gmS])
     have OZ:=hHeld
     (refine wpAnyH_done (by kernel_rfl) ?_ _; refine NoPanic.normal ?_)
     go_wp2_with fail
     go_meet
     case rel=>exact ⟨_,rfl,rfl,Lib.hid D4.out.2,Lib.hid OZ⟩
   ·skip
    go_simp
    have hp:=Below.size (show Below _ _ _ from hHeld)
    try simp only [World.size_alloc,World.size_drew] at hp
    have hp:=Lib.hid hp
    have RB:=Lib.hid (RB.out.below ((Below.refl _ _).alloc (Nat.le_refl _) (.cells #[.string ⟨#[]⟩,.int .i64 0,.string ⟨#[]⟩,.slice none 0 0] 42)))
    (refine hK.out _ _ (OldB.alloc hHeld _) (fun hHeld2 => ?_); clear hK K hHeld; have hHeld := hHeld2; clear hHeld2; try simp only [gmS])
    have XA:=Lib.hid (box4_new hHeld)
    try simp only [World.size_alloc] at XA
    refine rdR 6 (fun K hK=>?_)
    go_simp
    (with_reducible refine (ID5.out _ (L8 _ hHeld)).mono ?_)
    rintro e x7 ⟨rfl,t7⟩
    have RB:=Lib.hid (RB.out.below t7)
    have XA:=Lib.hid ((t7.block _ (lt_of_block XA.out)).trans XA.out)
    (refine hK.out _ _ (OldB.then hHeld t7) (fun hHeld2 => ?_); clear hK K hHeld; have hHeld := hHeld2; clear hHeld2; try simp only [gmS])
    refine rdR 7 (fun K hK=>?_)
    go_simp
    (with_reducible refine (SO.out _ _ (L8 _ hHeld) RB.out).mono ?_)
    rintro e x8 ⟨rfl,t8⟩
    have XA:=Lib.hid ((t8.block _ (lt_of_block XA.out)).trans XA.out)
    (refine hK.out _ _ (OldB.then hHeld t8) (fun hHeld2 => ?_); clear hK K hHeld; have hHeld := hHeld2; clear hHeld2; try simp only [gmS])
    (refine tkW 8 ?_; try simp only [gmS])
    (refine tkW 9 ?_; try simp only [gmS])
    (refine tkW 10 ?_; try simp only [gmS])
    refine rdR 12 (fun K hK=>?_)
    refine wp_store_mid 42 (.tmp 9) (.tmp 46) rfl _ 0 #[.string kv,.int .i64 1,.string av,.slice (some ⟨g4,0,none⟩) 1 1] rfl rfl (there_of_row XA.out (Nat.le_refl 4)) (by kernel_rfl) (by simp [Value.oneCell']) ?_
    have D4:=Lib.hid (done4 #[.string kv,.int .i64 1,.string av,.slice (some ⟨g4,0,none⟩) 1 1] hHeld XA.out hp.out rfl)
    have D41:=D4.out.1
    (refine hK.out _ _ D41 (fun hHeld2 => ?_); clear hK K hHeld; have hHeld := hHeld2; clear hHeld2; try simp only [gmS])
    (refine tkW 13 ?_; try simp only [gmS])
    have OZ:=hHeld
    (refine wpAnyH_done (by kernel_rfl) ?_ _; refine NoPanic.normal ?_)
    go_wp2_with fail
    go_meet
    case rel=>exact ⟨_,rfl,rfl,Lib.hid D4.out.2,Lib.hid OZ⟩
  ·skip
   go_simp
   (with_reducible refine (ID5.out _ (L8 _ hHeld)).mono ?_)
   rintro e x9 ⟨rfl,t9⟩
   (refine hK.out _ _ (OldB.then hHeld t9) (fun hHeld2 => ?_); clear hK K hHeld; have hHeld := hHeld2; clear hHeld2; try simp only [gmS])
   (refine wpAnyH_ready (rs := [3, 11]) (by kernel_rfl) (by simp) ?_; refine AllReadyH.cons (o := _) rfl (fun K hK => ?_) (AllReadyH.cons (o := _) rfl (fun K hK => ?_) AllReadyH.nil))
   ·skip
    rw [if_pos (by first | rfl | (simp [Region.wanted,yielded]; done))]
    refine wp_recs [c,hold,amd] 3 _ rfl rfl (by decide) (by decide) (by kernel_rfl) ?_
    have RB:=Lib.hid (newRs2 [c,hold,amd] (fun r hr=>by
     simp only [List.mem_cons,List.not_mem_nil,or_false] at hr
     rcases hr with rfl | rfl | rfl
     ·exact (LI.out _ (L8 _ hHeld)).1
     ·exact (LI.out _ (L8 _ hHeld)).2.1
     ·exact (LI.out _ (L8 _ hHeld)).2.2.2) (by show 3 ≤ 1000; decide))
    try simp only [World.size_alloc] at RB
    (refine hK.out _ _ (OldB.alloc hHeld _) (fun hHeld2 => ?_); clear hK K hHeld; have hHeld := hHeld2; clear hHeld2; try simp only [gmS])
    (refine wpAnyH_ready (rs := [7, 11]) (by kernel_rfl) (by simp) ?_; refine AllReadyH.cons (o := _) rfl (fun K hK => ?_) (AllReadyH.cons (o := _) rfl (fun K hK => ?_) AllReadyH.nil))
    ·skip
     go_simp
     (with_reducible refine (SO.out _ _ (L8 _ hHeld) RB.out).mono ?_)
     rintro e x11 ⟨rfl,t11⟩
     (refine hK.out _ _ (OldB.then hHeld t11) (fun hHeld2 => ?_); clear hK K hHeld; have hHeld := hHeld2; clear hHeld2; try simp only [gmS])
     (refine tkW 8 ?_; try simp only [gmS])
     (refine tkW 9 ?_; try simp only [gmS])
     (refine tkW 10 ?_; try simp only [gmS])
     refine rdR 11 (fun K hK=>?_)
     go_simp
     have hp:=Below.size (show Below _ _ _ from hHeld)
     try simp only [World.size_alloc,World.size_drew] at hp
     have hp:=Lib.hid hp
     (refine hK.out _ _ (OldB.alloc hHeld _) (fun hHeld2 => ?_); clear hK K hHeld; have hHeld := hHeld2; clear hHeld2; try simp only [gmS])
     have XA:=Lib.hid (box4_new hHeld)
     try simp only [World.size_alloc] at XA
     refine rdR 12 (fun K hK=>?_)
     refine wp_store_mid 42 (.tmp 9) (.tmp 46) rfl _ 0 #[.string kv,.int .i64 1,.string av,.slice (some ⟨g4,0,none⟩) 1 1] rfl rfl (there_of_row XA.out (Nat.le_refl 4)) (by kernel_rfl) (by simp [Value.oneCell']) ?_
     have D4:=Lib.hid (done4 #[.string kv,.int .i64 1,.string av,.slice (some ⟨g4,0,none⟩) 1 1] hHeld XA.out hp.out rfl)
     have D41:=D4.out.1
     (refine hK.out _ _ D41 (fun hHeld2 => ?_); clear hK K hHeld; have hHeld := hHeld2; clear hHeld2; try simp only [gmS])
     (refine tkW 13 ?_; try simp only [gmS])
     have OZ:=hHeld
     (refine wpAnyH_done (by kernel_rfl) ?_ _; refine NoPanic.normal ?_)
     go_wp2_with fail
     go_meet
     case rel=>exact ⟨_,rfl,rfl,Lib.hid D4.out.2,Lib.hid OZ⟩
    ·skip
     go_simp
     have hp:=Below.size (show Below _ _ _ from hHeld)
     try simp only [World.size_alloc,World.size_drew] at hp
     have hp:=Lib.hid hp
     have RB:=Lib.hid (RB.out.below ((Below.refl _ _).alloc (Nat.le_refl _) (.cells #[.string ⟨#[]⟩,.int .i64 0,.string ⟨#[]⟩,.slice none 0 0] 42)))
     (refine hK.out _ _ (OldB.alloc hHeld _) (fun hHeld2 => ?_); clear hK K hHeld; have hHeld := hHeld2; clear hHeld2; try simp only [gmS])
     have XA:=Lib.hid (box4_new hHeld)
     try simp only [World.size_alloc] at XA
     refine rdR 7 (fun K hK=>?_)
     go_simp
     (with_reducible refine (SO.out _ _ (L8 _ hHeld) RB.out).mono ?_)
     rintro e x14 ⟨rfl,t14⟩
     have XA:=Lib.hid ((t14.block _ (lt_of_block XA.out)).trans XA.out)
     (refine hK.out _ _ (OldB.then hHeld t14) (fun hHeld2 => ?_); clear hK K hHeld; have hHeld := hHeld2; clear hHeld2; try simp only [gmS])
     (refine tkW 8 ?_; try simp only [gmS])
     (refine tkW 9 ?_; try simp only [gmS])
     (refine tkW 10 ?_; try simp only [gmS])
     refine rdR 12 (fun K hK=>?_)
     refine wp_store_mid 42 (.tmp 9) (.tmp 46) rfl _ 0 #[.string kv,.int .i64 1,.string av,.slice (some ⟨g4,0,none⟩) 1 1] rfl rfl (there_of_row XA.out (Nat.le_refl 4)) (by kernel_rfl) (by simp [Value.oneCell']) ?_
     have D4:=Lib.hid (done4 #[.string kv,.int .i64 1,.string av,.slice (some ⟨g4,0,none⟩) 1 1] hHeld XA.out hp.out rfl)
     have D41:=D4.out.1
     (refine hK.out _ _ D41 (fun hHeld2 => ?_); clear hK K hHeld; have hHeld := hHeld2; clear hHeld2; try simp only [gmS])
     (refine tkW 13 ?_; try simp only [gmS])
     have OZ:=hHeld
     (refine wpAnyH_done (by kernel_rfl) ?_ _; refine NoPanic.normal ?_)
     go_wp2_with fail
     go_meet
     case rel=>exact ⟨_,rfl,rfl,Lib.hid D4.out.2,Lib.hid OZ⟩
   ·skip
    go_simp
    have hp:=Below.size (show Below _ _ _ from hHeld)
    try simp only [World.size_alloc,World.size_drew] at hp
    have hp:=Lib.hid hp
    (refine hK.out _ _ (OldB.alloc hHeld _) (fun hHeld2 => ?_); clear hK K hHeld; have hHeld := hHeld2; clear hHeld2; try simp only [gmS])
    have XA:=Lib.hid (box4_new hHeld)
    try simp only [World.size_alloc] at XA
    refine rdR 3 (fun K hK=>?_)
    refine wp_recs [c,hold,amd] 3 _ rfl rfl (by decide) (by decide) (by kernel_rfl) ?_
    have RB:=Lib.hid (newRs2 [c,hold,amd] (fun r hr=>by
     simp only [List.mem_cons,List.not_mem_nil,or_false] at hr
     rcases hr with rfl | rfl | rfl
     ·exact (LI.out _ (L8 _ hHeld)).1
     ·exact (LI.out _ (L8 _ hHeld)).2.1
     ·exact (LI.out _ (L8 _ hHeld)).2.2.2) (by show 3 ≤ 1000; decide))
    try simp only [World.size_alloc] at RB
    have XA:=Lib.hid ((alloc_old _ (.cells (rvsL [c,hold,amd]).toArray 56) (lt_of_block XA.out)).trans XA.out)
    (refine hK.out _ _ (OldB.alloc hHeld _) (fun hHeld2 => ?_); clear hK K hHeld; have hHeld := hHeld2; clear hHeld2; try simp only [gmS])
    refine rdR 7 (fun K hK=>?_)
    go_simp
    (with_reducible refine (SO.out _ _ (L8 _ hHeld) RB.out).mono ?_)
    rintro e x17 ⟨rfl,t17⟩
    have XA:=Lib.hid ((t17.block _ (lt_of_block XA.out)).trans XA.out)
    (refine hK.out _ _ (OldB.then hHeld t17) (fun hHeld2 => ?_); clear hK K hHeld; have hHeld := hHeld2; clear hHeld2; try simp only [gmS])
    (refine tkW 8 ?_; try simp only [gmS])
    (refine tkW 9 ?_; try simp only [gmS])
    (refine tkW 10 ?_; try simp only [gmS])
    refine rdR 12 (fun K hK=>?_)
    refine wp_store_mid 42 (.tmp 9) (.tmp 46) rfl _ 0 #[.string kv,.int .i64 1,.string av,.slice (some ⟨g4,0,none⟩) 1 1] rfl rfl (there_of_row XA.out (Nat.le_refl 4)) (by kernel_rfl) (by simp [Value.oneCell']) ?_
    have D4:=Lib.hid (done4 #[.string kv,.int .i64 1,.string av,.slice (some ⟨g4,0,none⟩) 1 1] hHeld XA.out hp.out rfl)
    have D41:=D4.out.1
    (refine hK.out _ _ D41 (fun hHeld2 => ?_); clear hK K hHeld; have hHeld := hHeld2; clear hHeld2; try simp only [gmS])
    (refine tkW 13 ?_; try simp only [gmS])
    have OZ:=hHeld
    (refine wpAnyH_done (by kernel_rfl) ?_ _; refine NoPanic.normal ?_)
    go_wp2_with fail
    go_meet
    case rel=>exact ⟨_,rfl,rfl,Lib.hid D4.out.2,Lib.hid OZ⟩
  ·skip
   go_simp
   have hp:=Below.size (show Below _ _ _ from hHeld)
   try simp only [World.size_alloc,World.size_drew] at hp
   have hp:=Lib.hid hp
   (refine hK.out _ _ (OldB.alloc hHeld _) (fun hHeld2 => ?_); clear hK K hHeld; have hHeld := hHeld2; clear hHeld2; try simp only [gmS])
   have XA:=Lib.hid (box4_new hHeld)
   try simp only [World.size_alloc] at XA
   (refine wpAnyH_ready (rs := [3, 6]) (by kernel_rfl) (by simp) ?_; refine AllReadyH.cons (o := _) rfl (fun K hK => ?_) (AllReadyH.cons (o := _) rfl (fun K hK => ?_) AllReadyH.nil))
   ·skip
    rw [if_pos (by first | rfl | (simp [Region.wanted,yielded]; done))]
    refine wp_recs [c,hold,amd] 3 _ rfl rfl (by decide) (by decide) (by kernel_rfl) ?_
    have RB:=Lib.hid (newRs2 [c,hold,amd] (fun r hr=>by
     simp only [List.mem_cons,List.not_mem_nil,or_false] at hr
     rcases hr with rfl | rfl | rfl
     ·exact (LI.out _ (L8 _ hHeld)).1
     ·exact (LI.out _ (L8 _ hHeld)).2.1
     ·exact (LI.out _ (L8 _ hHeld)).2.2.2) (by show 3 ≤ 1000; decide))
    try simp only [World.size_alloc] at RB
    have XA:=Lib.hid ((alloc_old _ (.cells (rvsL [c,hold,amd]).toArray 56) (lt_of_block XA.out)).trans XA.out)
    (refine hK.out _ _ (OldB.alloc hHeld _) (fun hHeld2 => ?_); clear hK K hHeld; have hHeld := hHeld2; clear hHeld2; try simp only [gmS])
    refine rdR 6 (fun K hK=>?_)
    go_simp
    (with_reducible refine (ID5.out _ (L8 _ hHeld)).mono ?_)
    rintro e x20 ⟨rfl,t20⟩
    have RB:=Lib.hid (RB.out.below t20)
    have XA:=Lib.hid ((t20.block _ (lt_of_block XA.out)).trans XA.out)
    (refine hK.out _ _ (OldB.then hHeld t20) (fun hHeld2 => ?_); clear hK K hHeld; have hHeld := hHeld2; clear hHeld2; try simp only [gmS])
    refine rdR 7 (fun K hK=>?_)
    go_simp
    (with_reducible refine (SO.out _ _ (L8 _ hHeld) RB.out).mono ?_)
    rintro e x21 ⟨rfl,t21⟩
    have XA:=Lib.hid ((t21.block _ (lt_of_block XA.out)).trans XA.out)
    (refine hK.out _ _ (OldB.then hHeld t21) (fun hHeld2 => ?_); clear hK K hHeld; have hHeld := hHeld2; clear hHeld2; try simp only [gmS])
    (refine tkW 8 ?_; try simp only [gmS])
    (refine tkW 9 ?_; try simp only [gmS])
    (refine tkW 10 ?_; try simp only [gmS])
    refine rdR 12 (fun K hK=>?_)
    refine wp_store_mid 42 (.tmp 9) (.tmp 46) rfl _ 0 #[.string kv,.int .i64 1,.string av,.slice (some ⟨g4,0,none⟩) 1 1] rfl rfl (there_of_row XA.out (Nat.le_refl 4)) (by kernel_rfl) (by simp [Value.oneCell']) ?_
    have D4:=Lib.hid (done4 #[.string kv,.int .i64 1,.string av,.slice (some ⟨g4,0,none⟩) 1 1] hHeld XA.out hp.out rfl)
    have D41:=D4.out.1
    (refine hK.out _ _ D41 (fun hHeld2 => ?_); clear hK K hHeld; have hHeld := hHeld2; clear hHeld2; try simp only [gmS])
    (refine tkW 13 ?_; try simp only [gmS])
    have OZ:=hHeld
    (refine wpAnyH_done (by kernel_rfl) ?_ _; refine NoPanic.normal ?_)
    go_wp2_with fail
    go_meet
    case rel=>exact ⟨_,rfl,rfl,Lib.hid D4.out.2,Lib.hid OZ⟩
   ·skip
    go_simp
    (with_reducible refine (ID5.out _ (L8 _ hHeld)).mono ?_)
    rintro e x22 ⟨rfl,t22⟩
    have XA:=Lib.hid ((t22.block _ (lt_of_block XA.out)).trans XA.out)
    (refine hK.out _ _ (OldB.then hHeld t22) (fun hHeld2 => ?_); clear hK K hHeld; have hHeld := hHeld2; clear hHeld2; try simp only [gmS])
    refine rdR 3 (fun K hK=>?_)
    refine wp_recs [c,hold,amd] 3 _ rfl rfl (by decide) (by decide) (by kernel_rfl) ?_
    have RB:=Lib.hid (newRs2 [c,hold,amd] (fun r hr=>by
     simp only [List.mem_cons,List.not_mem_nil,or_false] at hr
     rcases hr with rfl | rfl | rfl
     ·exact (LI.out _ (L8 _ hHeld)).1
     ·exact (LI.out _ (L8 _ hHeld)).2.1
     ·exact (LI.out _ (L8 _ hHeld)).2.2.2) (by show 3 ≤ 1000; decide))
    try simp only [World.size_alloc] at RB
    have XA:=Lib.hid ((alloc_old _ (.cells (rvsL [c,hold,amd]).toArray 56) (lt_of_block XA.out)).trans XA.out)
    (refine hK.out _ _ (OldB.alloc hHeld _) (fun hHeld2 => ?_); clear hK K hHeld; have hHeld := hHeld2; clear hHeld2; try simp only [gmS])
    refine rdR 7 (fun K hK=>?_)
    go_simp
    (with_reducible refine (SO.out _ _ (L8 _ hHeld) RB.out).mono ?_)
    rintro e x24 ⟨rfl,t24⟩
    have XA:=Lib.hid ((t24.block _ (lt_of_block XA.out)).trans XA.out)
    (refine hK.out _ _ (OldB.then hHeld t24) (fun hHeld2 => ?_); clear hK K hHeld; have hHeld := hHeld2; clear hHeld2; try simp only [gmS])
    (refine tkW 8 ?_; try simp only [gmS])
    (refine tkW 9 ?_; try simp only [gmS])
    (refine tkW 10 ?_; try simp only [gmS])
    refine rdR 12 (fun K hK=>?_)
    refine wp_store_mid 42 (.tmp 9) (.tmp 46) rfl _ 0 #[.string kv,.int .i64 1,.string av,.slice (some ⟨g4,0,none⟩) 1 1] rfl rfl (there_of_row XA.out (Nat.le_refl 4)) (by kernel_rfl) (by simp [Value.oneCell']) ?_
    have D4:=Lib.hid (done4 #[.string kv,.int .i64 1,.string av,.slice (some ⟨g4,0,none⟩) 1 1] hHeld XA.out hp.out rfl)
    have D41:=D4.out.1
    (refine hK.out _ _ D41 (fun hHeld2 => ?_); clear hK K hHeld; have hHeld := hHeld2; clear hHeld2; try simp only [gmS])
    (refine tkW 13 ?_; try simp only [gmS])
    have OZ:=hHeld
    (refine wpAnyH_done (by kernel_rfl) ?_ _; refine NoPanic.normal ?_)
    go_wp2_with fail
    go_meet
    case rel=>exact ⟨_,rfl,rfl,Lib.hid D4.out.2,Lib.hid OZ⟩
 case rest =>
  obtain ⟨b9,rfl,rfl,HB,OCH⟩:=hcut
  have OC:=OCH.out
  have L9:∀ u,OldB wc u → OldB X5 u:=fun u hu=>L8 u (OC.then hu)
  have RH9:=Lib.hid (fun u (hu:OldB wc u)=>RH.out u (L9 u hu))
  have RA9:=Lib.hid (fun u (hu:OldB wc u)=>RA.out u (L9 u hu))
  have a1:∀ u,OldB wc u → u.cell? ⟨ga,oa + 1,none⟩ = some (.int .i64 2):=fun u hu=>R6 u (O67.then (O78.then (OC.then hu))) 1 _ rfl
  have a2:∀ u,OldB wc u → u.cell? ⟨ga,oa + 2,none⟩ = some (.string (mkB (idC hold.c))):=fun u hu=>R6 u (O67.then (O78.then (OC.then hu))) 2 _ rfl
  have q1:∀ u,OldB wc u → u.cell? ⟨gb,ob + 1,none⟩ = some (.int .i64 1):=fun u hu=>R7 u (O78.then (OC.then hu)) 1 _ rfl
  have q2:∀ u,OldB wc u → u.cell? ⟨gb,ob + 2,none⟩ = some (.string ⟨#[]⟩):=fun u hu=>R7 u (O78.then (OC.then hu)) 2 _ rfl
  have z1:∀ u,OldB wc u → u.cell? ⟨gd,od + 1,none⟩ = some (.int .i64 1):=fun u hu=>R8 u (OC.then hu) 1 _ rfl
  have e1:∀ u,OldB wc u → u.cell? ⟨b9,1,none⟩ = some (.int .i64 1):=fun u hu=>by simpa using rng_keep HB.out.2 HB.out.1 hu 1 _ rfl
  have e2:∀ u,OldB wc u → u.cell? ⟨b9,2,none⟩ = some (.string (mkB (idC amd.c))):=fun u hu=>by simpa using rng_keep HB.out.2 HB.out.1 hu 2 _ rfl
  have e3:∀ u,OldB wc u → u.cell? ⟨b9,3,none⟩ = some (.slice (some ⟨g4,0,none⟩) 1 1):=fun u hu=>by simpa using rng_keep HB.out.2 HB.out.1 hu 3 _ rfl
  clear RH RA R6 R7 R8 O67 O78 HB OCH RC RW5 LI SO ID5 WI5 T5 O6 O7 O8 L7
  generalize mkB (idC hold.c) = hv at *
  generalize mkB (idC amd.c) = av at *
  go_upto_region 12 with fail
  (refine wp_region_noPanic ?_; refine wp_region_held_drew (S := (OldB wc)) (by kernel_rfl) ?_ (fun hHeld => ?_); exact Below.drew (Below.refl _ _))
  (refine tkW 0 ?_; try simp only [gmS])
  (refine tkW 1 ?_; try simp only [gmS])
  (refine tkW 2 ?_; try simp only [gmS])
  (refine tkW 3 ?_; try simp only [gmS])
  (refine tkW 4 ?_; try simp only [gmS])
  (refine tkW 5 ?_; try simp only [gmS])
  (refine tkW 6 ?_; try simp only [gmS])
  (refine tkW 7 ?_; try simp only [gmS])
  (refine tkW 8 ?_; try simp only [gmS])
  (refine tkW 9 ?_; try simp only [gmS])
  (refine ldW 10 56 (.tmp 3) b3x 0 (rvL hold) _ RH9.out Tryz.underlying56 (mrec_szL hold) ?_; try simp only [gmS])
  refine rdR 11 (fun K hK=>?_)
  go_simp
  (with_reducible refine (IDH.out _ (L9 _ hHeld)).mono ?_)
  rintro e y1 ⟨rfl,s1⟩
  (refine hK.out _ _ (OldB.then hHeld s1) (fun hHeld2 => ?_); clear hK K hHeld; have hHeld := hHeld2; clear hHeld2; try simp only [gmS])
  (refine tkW 12 ?_; try simp only [gmS])
  (refine tkW 13 ?_; try simp only [gmS])
  (refine tkW 14 ?_; try simp only [gmS])
  (refine tkW 15 ?_; try simp only [gmS])
  (refine tkW 16 ?_; try simp only [gmS])
  (refine tkW 17 ?_; try simp only [gmS])
  (refine tkW 18 ?_; try simp only [gmS])
  (refine tkW 19 ?_; try simp only [gmS])
  (refine tkW 20 ?_; try simp only [gmS])
  (refine tkW 21 ?_; try simp only [gmS])
  (refine tkW 22 ?_; try simp only [gmS])
  (refine tkW 23 ?_; try simp only [gmS])
  (refine tkW 24 ?_; try simp only [gmS])
  (refine tkW 25 ?_; try simp only [gmS])
  (refine tkW 26 ?_; try simp only [gmS])
  (refine tkW 27 ?_; try simp only [gmS])
  (refine tkW 28 ?_; try simp only [gmS])
  (refine tkW 29 ?_; try simp only [gmS])
  (refine tkW 30 ?_; try simp only [gmS])
  (refine tkW 31 ?_; try simp only [gmS])
  (refine tkW 32 ?_; try simp only [gmS])
  (refine tkW 33 ?_; try simp only [gmS])
  (refine tkW 34 ?_; try simp only [gmS])
  (refine tkW 35 ?_; try simp only [gmS])
  (refine tkW 36 ?_; try simp only [gmS])
  (refine tkW 37 ?_; try simp only [gmS])
  (refine tkW 38 ?_; try simp only [gmS])
  (refine tkW 39 ?_; try simp only [gmS])
  (refine tkW 40 ?_; try simp only [gmS])
  (refine tkW 41 ?_; try simp only [gmS])
  (refine tkW 42 ?_; try simp only [gmS])
  (refine tkW 43 ?_; try simp only [gmS])
  (refine tkW 44 ?_; try simp only [gmS])
  (refine tkW 45 ?_; try simp only [gmS])
  (refine ldW 46 56 (.tmp 5) b5x 0 (rvL amd) _ RA9.out Tryz.underlying56 (mrec_szL amd) ?_; try simp only [gmS])
  refine rdR 47 (fun K hK=>?_)
  go_simp
  (with_reducible refine (IDA.out _ (L9 _ hHeld)).mono ?_)
  rintro e y2 ⟨rfl,s2⟩
  (refine hK.out _ _ (OldB.then hHeld s2) (fun hHeld2 => ?_); clear hK K hHeld; have hHeld := hHeld2; clear hHeld2; try simp only [gmS])
  (refine tkW 48 ?_; try simp only [gmS])
  (refine tkW 49 ?_; try simp only [gmS])
  (refine tkW 50 ?_; try simp only [gmS])
  (refine tkW 51 ?_; try simp only [gmS])
  (refine tkW 52 ?_; try simp only [gmS])
  (refine tkW 53 ?_; try simp only [gmS])
  refine rdR 54 (fun K hK=>?_)
  go_simp
  (with_reducible refine (E45.out _ (L9 _ hHeld)).mono ?_)
  rintro e y3 ⟨rfl,s3⟩
  (refine hK.out _ _ (OldB.then hHeld s3) (fun hHeld2 => ?_); clear hK K hHeld; have hHeld := hHeld2; clear hHeld2; try simp only [gmS])
  (refine tkW 55 ?_; try simp only [gmS])
  (refine tkW 56 ?_; try simp only [gmS])
  have FF:=Lib.hid (B5.out _ (L9 _ hHeld))
  (refine wpAnyH_done (by kernel_rfl) ?_ _; refine NoPanic.normal ?_)
  go_wp2_with fail
  go_ret
  exact ⟨rfl,FF.out⟩
end Go.Proofs.YtniklmikdkjgiaaGreatDoor
