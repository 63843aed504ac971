import Derived.Test.YtniklmikdkjgiaaGreatDoorCXB
set_option linter.all false
set_option maxHeartbeats 16000000
set_option maxRecDepth 100000
namespace Go.Proofs.YtniklmikdkjgiaaGreatDoor
open Go.RowKit
theorem Rd.of_own {w:World} {base:Nat} {e:TypeId} {A:Option Addr} {n c:Nat} {xs:List Value} (h:w.ownsRow base e 1 (.slice A n c) n xs):Rd w A xs:=by
 rcases h.2 with ⟨hv,hn⟩ | ⟨g,cap,cur,hv,_,hg,_,_,_,ht⟩
 ·intro hp
  have:=h.1
  omega
 ·injection hv with hA _ _
  subst hA
  exact Rd.of_row hg (by rw [← ht]; exact List.take_prefix _ _)
theorem own_form {w:World} {base:Nat} {e:TypeId} {size n:Nat} {v:Value} {xs:List Value} (h:w.ownsRow base e size v n xs):∃ A c,v = .slice A n c ∧ n ≤ c ∧ c ≤ maxLen:=by
 rcases h.2 with ⟨rfl,rfl⟩ | ⟨g,cap,cur,rfl,_,_,h1,h2,_⟩
 ·exact ⟨none,0,rfl,Nat.le_refl _,by simp [maxLen]⟩
 ·exact ⟨_,cap,rfl,h1,h2⟩
theorem wpList_app1 {P:Program} {ops:Array Oper} {rest:List Oper} {o:Oper} {a:Act} {Q:Exit → Act → World → Prop} (hgd:o.guard = none) (s x:Operand) (t:TypeId)
  (ho:o.op = .call { callee:=.builtin .append,args:=#[s,x],argTypes:=#[t,t] }) {e:TypeId} {z:Value} {size bytes:Nat}
  (ht:P.underlying t = some (.slice e)) (hinfo:(P.info? e).map (fun i=>(i.zero,i.size,i.bytes)) = some (some z,size,bytes)) (hzs:z.cells.size = size) (hsz:0 < size)
  (base:Nat) (v:Value) (n:Nat) (xs:List Value) (w0:World) (cs:Array Value) (hcs:cs.size = size) (h1:∀ u ∈ cs.toList,u.oneCell' = true)
  (hs:a.eval s = v) {g:Nat} (hx:a.eval x = .slice (some ⟨g,0,none⟩) 1 1) (hg:w0.heap.size = g) (hown:w0.ownsRow base e size v n xs) (hb:base ≤ w0.heap.size)
  (hbytes:(n + 1) * bytes ≤ 140737488355328) (hmax:n + 1 ≤ 9223372036854775807)
  (h:∀ v' w',w'.ownsRow base e size v' (n + 1) (xs ++ cs.toList) → Below base w0 w' → wpList P ops Q rest (a.put o.dst v') w') :
  wpList P ops Q (o :: rest) a (w0.alloc (.cells cs e)):=by
 subst hg
 obtain ⟨i,hi,hz,hsi,hby⟩:=info_parts hinfo
 refine wpList_append_own _ hgd s x t ho base e i z size bytes ht hi hz hsi hby hzs hsz v n xs hs (hown.alloc _) ⟨w0.heap.size,0,none⟩ 1 1 cs.toList hx (by simpa using hcs)
  (World.news_of_block (cs:=cs) (t:=e) (fr:=(0,0)) (heap_alloc_new w0 _)) h1 (by simpa [maxLen] using hmax) hbytes (by simp; omega) ?_
 intro v' w' hown' hg _
 exact h v' w' hown' (((Below.refl base w0).alloc hb _).trans (grown_below hg (fun k hk=>(hown.lt k hk).1) (by simp; omega)))
end Go.Proofs.YtniklmikdkjgiaaGreatDoor
namespace Go.Proofs.YtniklmikdkjgiaaGreatDoor
open Go.RowKit
end Go.Proofs.YtniklmikdkjgiaaGreatDoor
namespace Go.Proofs.YtniklmikdkjgiaaGreatDoor
open Go.RowKit Go.Maps Go.ChangeMaps Go.MapKept Go.WideShapes
open Go.WideElems (Fit rd rg pl rd_key rd_val rg_of other_key elemAt)
section
variable {w w':World} {P:Program} {k:TypeId} {b n:Nat} {M:Lit → Option Value}
end
section
variable {w w':World} {P:Program} {k:TypeId} {b r n cnt:Nat} {M:Lit → Option Value} {left:Lit → Bool}
end
end Go.Proofs.YtniklmikdkjgiaaGreatDoor
namespace Go.Proofs.YtniklmikdkjgiaaGreatDoor
open Go.RowKit
end Go.Proofs.YtniklmikdkjgiaaGreatDoor
