import Derived.Test.YtniklmikdkjgiaaGreatDoorETR
set_option linter.all false
set_option maxHeartbeats 16000000
set_option maxRecDepth 100000
namespace Go.Proofs.YtniklmikdkjgiaaGreatDoor
open Go.RowKit Go.ChangeShapes Go.WideShapes Go.Deep
theorem rvW_one {w:World} {r:RV} (h:RvW w r):(rvL r).toArray.all (·.oneCell') = true:=by
 obtain ⟨A0,c0,v0,-⟩:=h.pa
 obtain ⟨A1,c1,v1,-⟩:=h.ed
 obtain ⟨⟨A2,c2,v2,-⟩,⟨A3,c3,v3,-⟩⟩:=h.sl
 obtain ⟨A4,c4,v4,-⟩:=h.so
 obtain ⟨A5,c5,v5,-⟩:=h.tr
 obtain ⟨⟨A6,c6,v6,-⟩,⟨A7,c7,v7,-⟩⟩:=h.ps
 unfold rvL
 rw [v0,v1,v2,v3,v4,v5,v6,v7]
 simp [Value.oneCell']
theorem rvsW_one {w:World} {l:List RV} (h:∀ r ∈ l,RvW w r):∀ u ∈ rvsL l,u.oneCell' = true:=fun u hu=>by
 obtain ⟨r,hr,hu⟩:=List.mem_flatMap.1 hu
 exact (Array.all_eq_true_iff_forall_mem.1 (rvW_one (h r hr))) u (by simpa using hu)
theorem few_sub {L M:List Rc} {n:Nat} (hs:∀ c ∈ L,c ∈ M) (hl:L.length ≤ M.length) (h:fewL M n = true):fewL L n = true:=by
 unfold fewL at h ⊢
 rw [Bool.and_eq_true,decide_eq_true_eq] at h ⊢
 exact ⟨by omega,List.all_eq_true.2 (fun c hc=>List.all_eq_true.1 h.2 c (hs c hc))⟩
theorem rcs_mem {l:List RV} {c:Rc} (h:c ∈ rcsC l):∃ r ∈ l,r.c = c:=List.mem_map.1 h
theorem few_of {l m:List RV} {n:Nat} (hs:∀ r ∈ l,r ∈ m) (hl:l.length ≤ m.length) (h:fewL (rcsC m) n = true):fewL (rcsC l) n = true :=
 few_sub (fun c hc=>by obtain ⟨r,hr,rfl⟩:=rcs_mem hc; exact List.mem_map.2 ⟨r,hs r hr,rfl⟩) (by unfold rcsC; rw [List.length_map,List.length_map]; exact hl) h
theorem Rw.app {u:World} {A A':Option Addr} {l m:List RV} (hr:Rd u A (rvsL (l ++ m))) (h1:∀ r ∈ l,RvW u r) (h2:∀ r ∈ m,RvW u r):Rw u A (l ++ m) :=
 ⟨hr,fun r hr=>(List.mem_append.1 hr).elim (h1 r) (h2 r)⟩
section
variable {H:Type} {enc:TypeId × Value → H} {w:World} {base:Nat} {held:Bool}
theorem wt_slice {t e:TypeId} (ht:Tryz.prog.underlying t = some (.slice e)) {el sp:List (DataW H)} (hw:Wt t (.slice el sp)):(el.length + sp.length) * Tryz.prog.bytesOf e ≤ reachBytes:=hw _ (by simp [DataW.weights,ht])
theorem recs_openB {fuel:Nat} {v:Value} {x:DataW H × List MemPlace} (h:DataW.trod enc Tryz.prog w base (fun _=>true) held fuel 22 [v] = some x) (hw:Wt 22 x.1):∃ (A:Option Addr) (c:Nat) (l:List RV),v = .slice A l.length c ∧ l.length ≤ c ∧ c ≤ 9223372036854775807 ∧ Rw w A l ∧ l.length * 336 ≤ 140737488351232:=by
 obtain ⟨A,c,l,e1,h1,h2,h3⟩:=recs_open h hw
 refine ⟨A,c,l,e1,h1,h2,h3,?_⟩
 rcases open_slice Tryz.underlying22 h with ⟨hcs,rfl⟩ | ⟨a,len,cap,m,n,D,Pl,hcs,hb,hl,hm,hmm,hx,hi⟩
 ·cases hcs
  injection e1 with _ e2 _
  omega
 ·cases hcs
  injection e1 with _ e2 _
  rw [hx] at hw
  have hs:=wt_slice Tryz.underlying22 hw
  rw [show Tryz.prog.bytesOf 56 = 336 by kernel_rfl] at hs
  simp only [List.length_map,List.length_range,reachBytes] at hs
  have:len * 336 ≤ (len + (m - len)) * 336:=Nat.mul_le_mul_right _ (Nat.le_add_right _ _)
  omega
end
theorem rd_grown {w w':World} {g:Nat} {xs:List Value} {row:Option Nat} (h:Rd w (some ⟨g,0,none⟩) xs) (hg:w.grownBy w' row) (hne:row ≠ some g):Rd w' (some ⟨g,0,none⟩) xs:=fun h0=>by
 obtain ⟨b,off,e,hb,hc⟩:=h h0
 cases e
 exact ⟨g,0,rfl,Nat.lt_of_lt_of_le hb hg.size,fun i v hv=>(World.cell?_of_block (w:=w) (hg.block g hb (fun e=>hne e.symm))).trans (hc i v hv)⟩
theorem lit_rd {W u:World} (_:OldB W u) (r:RV):Rd (u.alloc (.cells (rvL r).toArray 56)) (some ⟨u.heap.size,0,none⟩) (rvL r):=Rd.of_row (heap_alloc_new u _) (List.prefix_refl (rvL r))
end Go.Proofs.YtniklmikdkjgiaaGreatDoor
namespace Go.Proofs.YtniklmikdkjgiaaGreatDoor
open Go.RowKit
theorem ent_own (ms:List Int) (l:List RV) {j:Nat} (hj:j < (entS ms l).length) (hs:j < (setsT l l.length).length) :
  ∃ h:(setsT l l.length)[j] < l.length,(entS ms l)[j].own = l[(setsT l l.length)[j]]:=by
 obtain ⟨h,e⟩:=ent_at ms l hj hs
 exact ⟨h,by rw [← e,(fold_own ms _ _).1]; rfl⟩
theorem law_last (ms:List Int) (l:List RV) (x:RV) (h3:x.kind = 3) (hm:inI ms x.author = true):entS ms (l ++ [x]) = (entS ms l).map (obeyS x):=by
 rw [entS_app]; unfold stepS; rw [if_neg (by rw [h3]; decide),if_pos h3,if_pos hm]
theorem obey_miss {x:RV} {e:Sx} (ht:¬ e.id = x.target):obeyS x e = e:=by unfold obeyS; rw [if_neg ht]
end Go.Proofs.YtniklmikdkjgiaaGreatDoor
namespace Go.Proofs.YtniklmikdkjgiaaGreatDoor
open Go.RowKit Go.Maps Go.ChangeMaps Go.MapKept Go.WideShapes Go.WideMaps
end Go.Proofs.YtniklmikdkjgiaaGreatDoor
